/- Parts of the proofs about this seat's statements. -/
import Derived.Test.YtinmmkcjjlconaaGreatL1d
import Derived.Laws.ResultCell
import Derived.Lib.ItoaWalk
import Derived.Lib.ItoaMem
import Derived.Lib.AppendIntMem
import Derived.Lib.Slices
import Derived.Lib.Repeat
import Derived.Deep.Cut
import Derived.Deep.DeepCutAuto
import Derived.OrdersIn
set_option maxRecDepth 100000
set_option maxHeartbeats 16000000
namespace Go.Proofs.YtinmmkcjjlconaaGreat
open Go.RowKit W
open Pl (bv nb bv_nb nb_bv_size bv_lt cmpN)
theorem ndivide_any (X Y:Nat) (vx vy:Value) (w:World) (hx:U32s w 0 vx (digs X)) (hy:U32s w 0 vy (digs Y)) (h0:0<Y) (hlen:(digs X).length≤536870912):
  Calls Tryz.prog 132 #[vx,vy] w fun e w'=>RetDiv X Y e w'∧Below w.heap.size w w':=by
 rcases Nat.lt_or_ge X Y with h|h
 ·exact ndivide_less X Y vx vy w hx hy h
 ·have hn:digs Y≠ []:=fun e=>by have:=digs_eq_nil.1 e;omega
  have hp:0<(digs Y).length:=List.length_pos_iff.2 hn
  rcases(by omega:(digs Y).length=1∨2≤(digs Y).length) with h1|h1
  ·have:=digs_length_le (n:=Y) (k:=1)
   exact ndivide_one X Y vx vy w hx hy h h0 (by rw[h1] at this;simpa using this) (by omega)
  ·exact ndivide_many X Y ((digs Y).length-2) vx vy w hx hy h (by omega) hlen
theorem digs_zero_len{Y:Nat}(h:Y=0):(digs Y).length=0:=by rw[h,digs_zero];rfl
theorem nquo_any (s t:ByteArray) (w:World) (hs:s.size≤536870912) (ht:t.size≤4294967296) (h0:0<bv t):
  Calls Tryz.prog 129 #[.string s,.string t] w fun e w'=>e= .returned (.tuple #[.string (nb (bv s/bv t)),.string (nb (bv s %bv t)),.bool true])∧Below w.heap.size w w':=by
 have l1:=digs_len_bv s
 have hn:digs (bv t)≠ []:=fun e=>by have:=digs_eq_nil.1 e;omega
 have hp:0<(digs (bv t)).length:=List.length_pos_iff.2 hn;have q1:=digs_len_mono (Nat.div_le_self (bv s) (bv t));have q2:=digs_len_mono (Nat.mod_le (bv s) (bv t));have d1:=digs_dig (bv s/bv t);have d2:=digs_dig (bv s %bv t);have e1:=Lib.hid (dv_digs (bv s/bv t));have e2:=Lib.hid (dv_digs (bv s %bv t));clear hn
 go_enter Tryz.func129,Tryz.ntmps129
 go_wp2_with fail
 refine(limbs_any t _ ht).mono ?_
 rintro e w1 ⟨⟨v1,rfl,hv1⟩,hb1⟩;obtain⟨a,cap,rfl,hc,hm,hcell⟩:=hv1.open;clear hcell
 go_wp2_with fail
 refine(limbs_any s _ (by omega)).mono ?_
 rintro e w2 ⟨⟨v2,rfl,hv2⟩,hb2⟩;have hb12:=hb1.tr hb2;have hv1':=hv1.extend hb2;have hv2':=hv2.low (Nat.zero_le _);clear hv1 hv2
 go_wp2_with fail
 refine(ndivide_any (bv s) (bv t) v2 _ _ hv2' hv1' h0 (by omega)).mono ?_
 rintro e w3 ⟨⟨vq,vr,rfl,hq,hr⟩,hb3⟩;have hb13:=hb12.tr hb3
 go_wp2_with fail
 refine(nnumber_any _ _ _ _ d1 hq (by omega)).mono ?_
 rintro e w4 ⟨rfl,hb4⟩;have hb14:=hb13.tr hb4;have hr':=hr.extend hb4
 go_wp2_with fail
 refine(nnumber_any _ _ _ _ d2 hr' (by omega)).mono ?_
 rintro e w5 ⟨rfl,hb5⟩;have hb15:=hb14.tr hb5
 go_wp2_with fail
 go_ret3
 exact⟨ret3 (val_str (by rw[e1.out];rfl)) (val_str (by rw[e2.out];rfl)) rfl,hb15⟩
def u32V (w:World) (v:Value):Nat:=match v with
  | .slice (some a) n _=>match w.heap[a.block]? with
    |some (.cells cur _ _)=>(dv ((cur.toList.take n).map intOf)).toNat
    |_=>0
  |_=>0
theorem u32V_eq {w:World} {B:Nat} {v:Value} {l:List Int} (h:U32s w B v l):u32V w v=(dv l).toNat:=by
 rcases h.2 with⟨rfl,hz⟩|⟨g,cap,cur,rfl,hb,hg,hnc,hcm,hcs,htake⟩
 ·rw[List.eq_nil_of_length_eq_zero hz];rfl
 ·have e:l.map (Value.int .u32)=cur.toList.take l.length:=by rw[←htake];simp
  have e2:((l.map (Value.int .u32)).map intOf)=l:=by rw[List.map_map];exact(List.map_congr_left (fun _ _=>rfl)).trans (List.map_id _)
  unfold u32V
  simp only[hg]
  rw[←e,e2]
theorem u32V_digs{w:World}{B:Nat}{v:Value}{n:Nat}(h:U32s w B v (digs n)):u32V w v=n:=by rw[u32V_eq h,dv_digs,Int.toNat_natCast]
theorem ngcd_any (s t:ByteArray) (w:World) (hs:s.size≤536870912) (ht:t.size≤536870912):
  Calls Tryz.prog 113 #[.string s,.string t] w fun e w'=>e= .returned (.string (nb (Nat.gcd (bv s) (bv t))))∧Below w.heap.size w w':=by
 have l1:=digs_len_bv s;have l2:=digs_len_bv t
 go_enter Tryz.func113,Tryz.ntmps113
 go_wp2_with fail
 refine(limbs_any s _ (by omega)).mono ?_
 rintro e w1 ⟨⟨v1,rfl,hv1⟩,hb1⟩
 go_wp2_with fail
 refine(limbs_any t _ (by omega)).mono ?_
 rintro e w2 ⟨⟨v2,rfl,hv2⟩,hb2⟩;have hb12:=hb1.tr hb2;have hv1':=hv1.extend hb2;have hv2':=hv2.low (Nat.zero_le _);clear hv1 hv2
 go_wp2_with fail
 go_loopw [5,6] (fun x y wr=> ∃X Y:Nat,Nat.gcd X Y=Nat.gcd (bv s) (bv t)∧(digs X).length≤536870912∧(digs Y).length≤536870912∧U32s wr 0 x (digs X)∧U32s wr 0 y (digs Y)∧Below w.heap.size w wr) (fun _ y wr=>u32V wr y)
 case atStart=>exact⟨bv s,bv t,rfl,by omega,by omega,hv1',hv2',hb12⟩
 case round=>
  obtain⟨X,Y,hg,hlx,hly,hx,hy,hbel⟩:=hrel;have HG:=Lib.hid hg;clear hg;have hdx:=digs_dig X;have hmx:=u32V_digs hy;obtain⟨a,cap,rfl,hc,hm,hcell⟩:=hy.open;clear hcell
  rcases Nat.eq_zero_or_pos Y with h0|h0
  ·have hl:=digs_zero_len h0
   have HX:=Lib.hid (show X=Nat.gcd (bv s) (bv t) from by rw[←HG.out,h0,Nat.gcd_zero_right])
   have HE:=Lib.hid (dv_digs X);clear h0 hmx
   go_wp2_with fail
   refine(nnumber_any _ _ _ _ hdx hx (by omega)).mono ?_
   rintro e w4 ⟨rfl,hb4⟩
   go_wp2_with fail
   go_ret
   exact⟨ret_str (by rw[HE.out,Int.toNat_natCast,HX.out]),hbel.tr hb4⟩
  ·have hp:0<(digs Y).length:=List.length_pos_iff.2 (fun e=>by have:=digs_eq_nil.1 e;omega)
   have hlr:=digs_len_mono (Nat.mod_le X Y)
   have HR:=Lib.hid (show Nat.gcd Y (X %Y)=Nat.gcd (bv s) (bv t) from by rw[←HG.out,Nat.gcd_comm,←Nat.gcd_rec,Nat.gcd_comm])
   have Hlt:=Lib.hid (Nat.mod_lt X h0);have HM:=Lib.hid hmx
   have hly3:(digs (X %Y)).length≤536870912:=by omega
   clear hmx
   go_wp2_with fail
   refine(ndivide_any X Y _ _ _ hx hy h0 hlx).mono ?_
   rintro e w3 ⟨⟨vq,vr,rfl,hq,hr⟩,hb3⟩;have hy3:=hy.extend hb3;have hb13:=hbel.tr hb3;have hmr:=Lib.hid (u32V_digs hr)
   go_wp2_with fail
   go_roundw
   case rel=>exact⟨Y,X %Y,HR.out,hly,hly3,hy3,hr,hb13⟩
   case measure=>rw[hmr.out,HM.out];exact Hlt.out
end Go.Proofs.YtinmmkcjjlconaaGreat
namespace Go.Proofs.YtinmmkcjjlconaaGreat
open Go.RowKit W
open Pl (bval enc bv nb bv_nb nb_size_le nb_size_zero nb_size_mono nb_bv_size bv_lt cmpN nb_inj)
def Rx(w:World)(g:Nat)(vs:List Value):Prop:=g<w.heap.size∧∀i v,vs[i]? =some v→w.cell? ⟨g,i,none⟩=some v∧w.frozen? ⟨g,i,none⟩=false
theorem Rx.lt{w:World}{g:Nat}{vs:List Value}(h:Rx w g vs):g<w.heap.size:=h.1
theorem Rx.at{w:World}{g:Nat}{vs:List Value}(h:Rx w g vs)(i:Nat){v:Value}(hv:vs[i]? =some v):w.cell? ⟨g,i,none⟩=some v:=(h.2 i v hv).1
theorem Rx.fr{w:World}{g:Nat}{vs:List Value}(h:Rx w g vs)(i:Nat){v:Value}(hv:vs[i]? =some v):w.frozen? ⟨g,i,none⟩=false:=(h.2 i v hv).2
theorem Rx.below {w w':World} {g:Nat} {vs:List Value} (h:Rx w g vs) (hb:Below w.heap.size w w'):Rx w' g vs:=
 ⟨Nat.lt_of_lt_of_le h.1 hb.size,fun i _ hv=>⟨(hb.cell (p:=⟨g,i,none⟩) h.1).trans (h.at i hv),(hb.frozen (p:=⟨g,i,none⟩) h.1).trans (h.fr i hv)⟩⟩
theorem Rx.alloc{w:World}{g:Nat}{vs:List Value}(h:Rx w g vs)(o:Obj):Rx (w.alloc o) g vs:=h.below ((Below.refl _ _).alloc (Nat.le_refl _) _)
theorem Rx.drew{w:World}{g:Nat}{vs:List Value}(h:Rx w g vs):Rx w.drew g vs:=h.below ((Below.refl _ _).drew)
theorem Rx.new (w:World) (g:Nat) (hg:g=w.heap.size) (vs:List Value) (t:TypeId):Rx (w.alloc (.cells vs.toArray t)) g vs:=by
 subst hg;have h:=heap_alloc_new w (.cells vs.toArray t)
 refine⟨by simp,fun i v hv=>⟨?_,by rw[World.frozen?,h];rfl⟩⟩
 rw[cell_of_row _ _ i _ _ _ h]
 simpa using hv
theorem Rx.other {w:World} {g:Nat} {vs:List Value} (h:Rx w g vs) {p:Addr} (hne:p.block≠g) (u:Value):Rx (w.setCell p u) g vs:=by
 refine⟨by simpa using h.1,fun i v hv=>⟨?_,by rw[World.frozen?_setCell];exact h.fr i hv⟩⟩
 rw[World.cell?_setCell_other (h:=fun e=>hne (by rw[e]))]
 exact h.at i hv
theorem Rx.put {w:World} {g:Nat} {vs:List Value} (h:Rx w g vs) (j:Nat) (u:Value) (hj:j<vs.length):Rx (w.setCell ⟨g,j,none⟩ u) g (vs.set j u):=by
 refine⟨by simpa using h.1,fun i v hv=>?_⟩
 by_cases e:j=i
 ·subst e
  rw[List.getElem?_set_self hj] at hv
  injection hv with hv
  subst hv
  exact⟨World.cell?_setCell_same _ _ _ (h.at j (List.getElem?_eq_getElem hj)),by rw[World.frozen?_setCell];exact h.fr j (List.getElem?_eq_getElem hj)⟩
 ·rw[List.getElem?_set_ne e] at hv
  exact⟨by rw[World.cell?_setCell_other (h:=fun hh=>e (by injection hh))];exact h.at i hv,by rw[World.frozen?_setCell];exact h.fr i hv⟩
theorem Rx.put3{w:World}{g:Nat}{a b c:Value}(h:Rx w g [a,b,c])(x y z:Value):Rx (((w.setCell ⟨g,0,none⟩ x).setCell ⟨g,1,none⟩ y).setCell ⟨g,2,none⟩ z) g [x,y,z]:=((h.put 0 x (by simp)).put 1 y (by simp)).put 2 z (by simp)
abbrev rv (q:Rat):Value:=.agg #[.bool (decide (q.num<0)),.string (nb q.num.natAbs),.string (nb q.den)]
structure Sz (q:Rat) (k:Nat):Prop where
  n:(nb q.num.natAbs).size≤k
  d:(nb q.den).size≤k
theorem Sz.mono{q:Rat}{k l:Nat}(h:Sz q k)(hl:k≤l):Sz q l:=⟨Nat.le_trans h.1 hl,Nat.le_trans h.2 hl⟩
theorem nbs{n k:Nat}(h:n<256^8)(hk:8≤k):(nb n).size≤k:=Nat.le_trans (nb_size_le.2 h) hk
theorem nb_0:nb 0=⟨#[]⟩:=by decide+kernel
theorem nb0_nil:(nb 0).toList= []:=toList_nil.2 (nb_size_zero.2 rfl)
theorem nb_1:nb 1=⟨#[1]⟩:=by decide+kernel
theorem bv_1:bv ⟨#[1]⟩=1:=by decide+kernel
theorem size_mul {n k a b:Nat} (h1:(nb n).size≤a) (h2:(nb k).size≤b):(nb (n*k)).size≤a+b:=by
 refine nb_size_le.2 ?_
 have p1:=nb_size_le.1 h1;have p2:=nb_size_le.1 h2;rw[Nat.pow_add]
 rcases Nat.eq_zero_or_pos k with rfl|hk
 ·rw[Nat.mul_zero];exact Nat.mul_pos (by omega) (by omega)
 ·exact Nat.lt_of_lt_of_le (Nat.mul_lt_mul_of_pos_right p1 hk) (Nat.mul_le_mul_left _ (by omega))
theorem add_size {x y k:Nat} (hx:(nb x).size≤k) (hy:(nb y).size≤k):(nb (x+y)).size≤k+1:=by
 refine nb_size_le.2 ?_
 have:=nb_size_le.1 hx;have:=nb_size_le.1 hy;rw[Nat.pow_succ]
 omega
theorem div_size{x y k:Nat}(hx:(nb x).size≤k):(nb (x/y)).size≤k:=Nat.le_trans (nb_size_mono (Nat.div_le_self _ _)) hx
theorem bv_bound{s:ByteArray}{k:Nat}(h:s.size≤k):(nb (bv s)).size≤k:=Nat.le_trans (nb_bv_size s) h
theorem gcd_size {x y i j:Nat} (h:(nb x).size≤i) (h':(nb y).size≤j):(nb (Nat.gcd x y)).size≤i+j:=by
 rcases Nat.eq_zero_or_pos x with rfl|hx
 ·rw[Nat.gcd_zero_left];omega
 ·exact Nat.le_trans (nb_size_mono (Nat.le_of_dvd hx (Nat.gcd_dvd_left x y))) (by omega)
theorem nb_pos {n:Nat} (h:0<n):0<(nb n).size:=by
 rcases Nat.eq_zero_or_pos (nb n).size with h0|h0
 ·rw[nb_size_zero] at h0;omega
 ·exact h0
theorem nb_ne{n:Nat}(h:n≠0): ¬(nb n).toList= []:=fun e=>by have:=toList_nil.1 e;have:=nb_pos (show 0<n by omega);omega
theorem nb_isE{n:Nat}(h:n≠0):(nb n).toList.isEmpty=false:=by simpa using nb_ne h
theorem ret_rv{a:Bool}{x y:Nat}{q:Rat}(h1:a=decide (q.num<0))(h2:x=q.num.natAbs)(h3:y=q.den):Value.agg #[.bool a,.string (nb x),.string (nb y)]=rv q:=by rw[rv,h1,h2,h3]
theorem Rx.all1{w:World}{g:Nat}{v0:Value}(h:Rx w g [v0]):w.cell? ⟨g,0,none⟩=some v0∧w.frozen? ⟨g,0,none⟩=false:=⟨h.at 0 rfl,h.fr 0 rfl⟩
theorem Rx.all3{w:World}{g:Nat}{v0 v1 v2:Value}(h:Rx w g [v0,v1,v2]):w.cell? ⟨g,0,none⟩=some v0∧w.frozen? ⟨g,0,none⟩=false∧w.cell? ⟨g,1,none⟩=some v1∧w.frozen? ⟨g,1,none⟩=false∧w.cell? ⟨g,2,none⟩=some v2∧w.frozen? ⟨g,2,none⟩=false:=⟨h.at 0 rfl,h.fr 0 rfl,h.at 1 rfl,h.fr 1 rfl,h.at 2 rfl,h.fr 2 rfl⟩
theorem Rx.all5{w:World}{g:Nat}{v0 v1 v2 v3 v4:Value}(h:Rx w g [v0,v1,v2,v3,v4]):w.cell? ⟨g,0,none⟩=some v0∧w.frozen? ⟨g,0,none⟩=false∧w.cell? ⟨g,1,none⟩=some v1∧w.frozen? ⟨g,1,none⟩=false∧w.cell? ⟨g,2,none⟩=some v2∧w.frozen? ⟨g,2,none⟩=false∧w.cell? ⟨g,3,none⟩=some v3∧w.frozen? ⟨g,3,none⟩=false∧w.cell? ⟨g,4,none⟩=some v4∧w.frozen? ⟨g,4,none⟩=false:=⟨h.at 0 rfl,h.fr 0 rfl,h.at 1 rfl,h.fr 1 rfl,h.at 2 rfl,h.fr 2 rfl,h.at 3 rfl,h.fr 3 rfl,h.at 4 rfl,h.fr 4 rfl⟩
theorem opn1(w:World)(a0:List Value)(t0:TypeId):Rx (w.alloc (.cells a0.toArray t0)) (w.heap.size) a0∧Below w.heap.size w (w.alloc (.cells a0.toArray t0)):=⟨(Rx.new w _ rfl a0 t0),((Below.refl w.heap.size w).alloc (Nat.le_refl _) _)⟩
theorem opn2(w:World)(a0 a1:List Value)(t0 t1:TypeId):Rx ((w.alloc (.cells a0.toArray t0)).alloc (.cells a1.toArray t1)) (w.heap.size) a0∧Rx ((w.alloc (.cells a0.toArray t0)).alloc (.cells a1.toArray t1)) (w.heap.size+1) a1∧Below w.heap.size w ((w.alloc (.cells a0.toArray t0)).alloc (.cells a1.toArray t1)):=⟨((Rx.new w _ rfl a0 t0).alloc _),(Rx.new (w.alloc (.cells a0.toArray t0)) _ (by simp) a1 t1),(((Below.refl w.heap.size w).alloc (Nat.le_refl _) _).alloc (by simp) _)⟩
theorem qz33{w:World}{g0:Nat}{v0_0 v0_1 v0_2:Value}(h0:Rx w g0 [v0_0,v0_1,v0_2]){g1:Nat}{v1_0 v1_1 v1_2:Value}(h1:Rx w g1 [v1_0,v1_1,v1_2]):w.cell? ⟨g0,0,none⟩=some v0_0∧w.cell? ⟨g0,1,none⟩=some v0_1∧w.cell? ⟨g0,2,none⟩=some v0_2∧w.cell? ⟨g1,0,none⟩=some v1_0∧w.cell? ⟨g1,1,none⟩=some v1_1∧w.cell? ⟨g1,2,none⟩=some v1_2:=⟨h0.at 0 rfl,h0.at 1 rfl,h0.at 2 rfl,h1.at 0 rfl,h1.at 1 rfl,h1.at 2 rfl⟩
theorem qz335{w:World}{g0:Nat}{v0_0 v0_1 v0_2:Value}(h0:Rx w g0 [v0_0,v0_1,v0_2]){g1:Nat}{v1_0 v1_1 v1_2:Value}(h1:Rx w g1 [v1_0,v1_1,v1_2]){g2:Nat}{v2_0 v2_1 v2_2 v2_3 v2_4:Value}(h2:Rx w g2 [v2_0,v2_1,v2_2,v2_3,v2_4]):w.cell? ⟨g0,0,none⟩=some v0_0∧w.cell? ⟨g0,1,none⟩=some v0_1∧w.cell? ⟨g0,2,none⟩=some v0_2∧w.cell? ⟨g1,0,none⟩=some v1_0∧w.cell? ⟨g1,1,none⟩=some v1_1∧w.cell? ⟨g1,2,none⟩=some v1_2∧w.cell? ⟨g2,0,none⟩=some v2_0∧w.cell? ⟨g2,1,none⟩=some v2_1∧w.cell? ⟨g2,2,none⟩=some v2_2∧w.cell? ⟨g2,3,none⟩=some v2_3∧w.cell? ⟨g2,4,none⟩=some v2_4:=⟨h0.at 0 rfl,h0.at 1 rfl,h0.at 2 rfl,h1.at 0 rfl,h1.at 1 rfl,h1.at 2 rfl,h2.at 0 rfl,h2.at 1 rfl,h2.at 2 rfl,h2.at 3 rfl,h2.at 4 rfl⟩
theorem qz35{w:World}{g0:Nat}{v0_0 v0_1 v0_2:Value}(h0:Rx w g0 [v0_0,v0_1,v0_2]){g1:Nat}{v1_0 v1_1 v1_2 v1_3 v1_4:Value}(h1:Rx w g1 [v1_0,v1_1,v1_2,v1_3,v1_4]):w.cell? ⟨g0,0,none⟩=some v0_0∧w.cell? ⟨g0,1,none⟩=some v0_1∧w.cell? ⟨g0,2,none⟩=some v0_2∧w.cell? ⟨g1,0,none⟩=some v1_0∧w.cell? ⟨g1,1,none⟩=some v1_1∧w.cell? ⟨g1,2,none⟩=some v1_2∧w.cell? ⟨g1,3,none⟩=some v1_3∧w.cell? ⟨g1,4,none⟩=some v1_4:=⟨h0.at 0 rfl,h0.at 1 rfl,h0.at 2 rfl,h1.at 0 rfl,h1.at 1 rfl,h1.at 2 rfl,h1.at 3 rfl,h1.at 4 rfl⟩
theorem qz3{w:World}{g0:Nat}{v0_0 v0_1 v0_2:Value}(h0:Rx w g0 [v0_0,v0_1,v0_2]):w.cell? ⟨g0,0,none⟩=some v0_0∧w.cell? ⟨g0,1,none⟩=some v0_1∧w.cell? ⟨g0,2,none⟩=some v0_2:=⟨h0.at 0 rfl,h0.at 1 rfl,h0.at 2 rfl⟩
theorem qz5{w:World}{g0:Nat}{v0_0 v0_1 v0_2 v0_3 v0_4:Value}(h0:Rx w g0 [v0_0,v0_1,v0_2,v0_3,v0_4]):w.cell? ⟨g0,0,none⟩=some v0_0∧w.cell? ⟨g0,1,none⟩=some v0_1∧w.cell? ⟨g0,2,none⟩=some v0_2∧w.cell? ⟨g0,3,none⟩=some v0_3∧w.cell? ⟨g0,4,none⟩=some v0_4:=⟨h0.at 0 rfl,h0.at 1 rfl,h0.at 2 rfl,h0.at 3 rfl,h0.at 4 rfl⟩
theorem sqA{α:Type _}{l:List α}{i:Nat}{a:α}:l.toArray.setIfInBounds i a=(l.set i a).toArray:=List.setIfInBounds_toArray ..
theorem sqB{α:Type _}{x:α}{l:List α}{a:α}:(x::l).set 0 a=a::l:=List.set_cons_zero ..
theorem sqC{α:Type _}{x:α}{l:List α}{i:Nat}{a:α}:(x::l).set (i+1) a=x::l.set i a:=List.set_cons_succ ..
end Go.Proofs.YtinmmkcjjlconaaGreat
namespace Go.Proofs.YtinmmkcjjlconaaGreat
open Go.RowKit W
def Pan(Q:Exit→Act→World→Prop):Prop:= ∀d v c a w,Q (.panic c) (Act.put a d v) w→Q (.panic c) a w
theorem wp_held {P:Program} {ops:Array Oper} {Q:Exit→Act→World→Prop} {S:World→Prop} {id:Nat} {a:Act} {w:World} (hm:P.follows .mixedOrders=true)
  (h:Pan (NoPanic Q)→∀W,Hid (W=w.drew)→S W∧(S W→wpAnyH P .any ops (NoPanic Q) S ops.size (Array.replicate ops.size false) a W)):(Code.region id ops true).wp P Q a w:=
 wp_region_noPanic (wp_region_held_drew hm (h (fun _ _ _ _ _ h=>h) _ (Lib.hid rfl)).1 (h (fun _ _ _ _ _ h=>h) _ (Lib.hid rfl)).2)
section
variable {P:Program} {ops:Array Oper} {Q:Exit→Act→World→Prop} {md:Region.Mode} {S:World→Prop} {oi:Oper} {v:Value} {fuel:Nat} {listed:Array Bool} {a:Act} {w:World}
theorem tk (i:Nat) (hP:Pan Q) (hk:(Region.noSelect ops&&Region.free md ops listed i&&(Region.ready md ops listed).contains i)=true) (hi:ops[i]? =some oi)
  (hw:Region.wanted oi (yielded ops a.tmps)=true) (hy: ∀w,S w→(execOp a.eval oi).run P w= .ok (.value v) w) (hS:S w)
  (h:wpAnyH P md ops Q S fuel (listed.setIfInBounds i true) (a.put oi.dst v) w):wpAnyH P md ops Q S (fuel+1) listed a w:=by
 simp only[Bool.and_eq_true] at hk
 exact wpAnyH_take hi hk.1.1 hk.1.2 hk.2 (fun c a w=>hP _ _ c a w) (Or.inl ⟨hw,hy⟩) hS h
theorem sk (i:Nat) (hP:Pan Q) (hk:(Region.noSelect ops&&Region.free md ops listed i&&(Region.ready md ops listed).contains i)=true) (hi:ops[i]? =some oi)
  (hw:Region.wanted oi (yielded ops a.tmps)=false) (hS:S w)
  (h:wpAnyH P md ops Q S fuel (listed.setIfInBounds i true) (a.put oi.dst undef) w):wpAnyH P md ops Q S (fuel+1) listed a w:=by
 simp only[Bool.and_eq_true] at hk
 exact wpAnyH_take hi hk.1.1 hk.1.2 hk.2 (fun c a w=>hP _ _ c a w) (Or.inr ⟨hw,rfl⟩) hS h
theorem st (i:Nat) (hk:Region.ready md ops listed= [i]) (hi:ops[i]? =some oi)
  (h: ∀K:Act→World→Prop,Shut (∀a w,S w→(S w→wpAnyH P md ops Q S fuel (listed.setIfInBounds i true) a w)→K a w)→if Region.wanted oi (yielded ops a.tmps)=true then Oper.wp P oi a w K Q else K (a.put oi.dst undef) w):
  wpAnyH P md ops Q S (fuel+1) listed a w:=wpAnyH_ready hk (by simp) (AllReadyH.cons hi h AllReadyH.nil)
end
theorem tkA {P:Program} {ops:Array Oper} {Q:Exit→Act→World→Prop} {md:Region.Mode} {S:World→Prop} {oi:Oper} {v:Value} {fuel:Nat} {listed:Array Bool} {a a':Act} {w:World} (i:Nat) (hP:Pan Q) (hS:S w) (h:wpAnyH P md ops Q S fuel (listed.setIfInBounds i true) a' w)
  (hi:ops[i]? =some oi:=by(conv=>lhs;whnf;arg 1;whnf))
  (hk:(Region.noSelect ops&&Region.free md ops listed i&&(Region.ready md ops listed).contains i)=true:=by kernel_rfl)
  (hw:Region.wanted oi (yielded ops a.tmps)=true:=by kernel_rfl)
  (hy: ∀w,S w→(execOp a.eval oi).run P w= .ok (.value v) w:=by intro w hSw;(try dsimp only at hSw);go_simp;all_goals with_reducible rfl)
  (ha:a.put oi.dst v=a':=by(conv=>lhs;simp only[Act.put,sqA,sqB,sqC])):wpAnyH P md ops Q S (fuel+1) listed a w:=by
 subst ha
 exact tk i hP hk hi hw hy hS h
theorem doneA{P:Program}{ops:Array Oper}{Q:Exit→Act→World→Prop}{md:Region.Mode}{S:World→Prop}{fuel:Nat}{listed:Array Bool}{a:Act}{w:World}(h:Q .normal a w)(hr:Region.ready md ops listed= []:=by kernel_rfl):wpAnyH P md ops (NoPanic Q) S fuel listed a w:=wpAnyH_done hr (NoPanic.normal h) _
theorem stA {P:Program} {ops:Array Oper} {Q:Exit→Act→World→Prop} {md:Region.Mode} {S:World→Prop} {oi:Oper} {fuel:Nat} {listed:Array Bool} {a:Act} {w:World} (i:Nat)
  (h: ∀K:Act→World→Prop,Shut (∀a w,S w→(S w→wpAnyH P md ops Q S fuel (listed.setIfInBounds i true) a w)→K a w)→if Region.wanted oi (yielded ops a.tmps)=true then Oper.wp P oi a w K Q else K (a.put oi.dst undef) w)
  (hi:ops[i]? =some oi:=by(conv=>lhs;whnf;arg 1;whnf)) (hk:Region.ready md ops listed= [i]:=by kernel_rfl):wpAnyH P md ops Q S (fuel+1) listed a w:=st i hk hi h
theorem szA{α:Type _}{l:List α}{i:Nat}{a:α}:l.toArray.setIfInBounds i a=(l.set i a).toArray:=List.setIfInBounds_toArray ..
theorem szB{α:Type _}{x:α}{l:List α}{a:α}:(x::l).set 0 a=a::l:=List.set_cons_zero ..
theorem szC{α:Type _}{x:α}{l:List α}{i:Nat}{a:α}:(x::l).set (i+1) a=x::l.set i a:=List.set_cons_succ ..
def lk (t:Nat):List (Nat×Value)→Option Value
  | []=>none
  |(d,v)::L=>if t=d then some v else lk t L
def vl(t:Nat)(I L:List (Nat×Value)):Value:=match lk t L with|some v=>v|none=>(lk t I).getD undef
def puts (A:Act):List (Nat×Value)→Act
  | []=>A
  |(d,v)::L=>(puts A L).put (some d) v
def pt(d:Option Tmp)(v:Value)(L:List (Nat×Value)):List (Nat×Value):=match d with|some d=>(d,v)::L|none=>L
def vls (I L:List (Nat×Value)):List Nat→List Value
  | []=> []
  |t::ts=>vl t I L::vls I L ts
theorem vlC{I L:List (Nat×Value)}{t:Nat}{ts:List Nat}{v:Value}{vs:List Value}(h:vl t I L=v)(k:vls I L ts=vs):vls I L (t::ts)=v::vs:=by rw[←h,←k];rfl
def Fa (a:Act):List Nat→List Value→Prop
  |t::ts,v::vs=>a.tmps[t]?.getD undef=v∧Fa a ts vs
  |_,_=>True
def lives (a:Act):List Nat→List (Nat×Value)
  | []=> []
  |t::ts=>(t,a.tmps[t]?.getD undef)::lives a ts
theorem livC{a:Act}{t:Nat}{ts:List Nat}{v:Value}{I:List (Nat×Value)}(h:a.tmps[t]?.getD undef=v)(k:lives a ts=I):lives a (t::ts)=(t,v)::I:=by rw[←h,←k];rfl
def yl(ops:Array Oper)(I L:List (Nat×Value))(j:Nat):Option Bool:=match(ops[j]?).bind (·.dst) with|none=>none|some t=>match vl t I L with| .bool b=>some b|_=>none
inductive Sc where
  |e
  |p (i:Nat) (r:Sc)
  |c (i:Nat) (r:Sc)
  |k (i:Nat) (r:Sc)
  |b (r s:Sc)
def ps (a:Nat):Nat→Sc→Sc
  |0,r=>r
  |n+1,r=>.p a (ps (a+1) n r)
def ks (a:Nat):Nat→Sc→Sc
  |0,r=>r
  |n+1,r=>.k a (ks (a+1) n r)
section
variable {P:Program} {ops:Array Oper} {Q:Exit→Act→World→Prop} {S:World→Prop} {A:Act} {n:Nat} {I L:List (Nat×Value)} {w:World}
def oks(ops:Array Oper)(n:Nat)(D:List Nat)(o:Oper):Bool:=(o.looksAt ops).all (D.contains ·)&&(match o.dst with|some d=>decide (d<n)|none=>true)
def Sc.hd:Sc→List Nat
  | .c i _=> [i]
  | .b r s=>r.hd++s.hd
  |_=> []
def chk (ops:Array Oper) (n:Nat):Bool→Array Bool→List Nat→Sc→Nat→Bool
  |t,l,_,.e,_=>!t&&(Region.ready .any ops l).isEmpty
  |_,_,_,_,0=>false
  |t,l,D,.p i r,f+1=>!t&&(match ops[i]? with|none=>false|some o=>oks ops n D o&&Region.free .any ops l i&&(Region.ready .any ops l).contains i&&chk ops n false (l.setIfInBounds i true) (o.dst.toList++D) r f)
  |t,l,D,.k i r,f+1=>!t&&(match ops[i]? with|none=>false|some o=>oks ops n D o&&Region.free .any ops l i&&(Region.ready .any ops l).contains i&&chk ops n false (l.setIfInBounds i true) (o.dst.toList++D) r f)
  |t,l,D,.c i r,f+1=>(match ops[i]? with|none=>false|some o=>oks ops n D o&&(t||Region.ready .any ops l== [i])&&chk ops n false (l.setIfInBounds i true) (o.dst.toList++D) r f)
  |t,l,D,.b r s,f+1=>(t||(!(r.hd++s.hd).isEmpty&&Region.ready .any ops l==r.hd++s.hd))&&chk ops n true l D r (f+1)&&chk ops n true l D s (f+1)
def Sch (P:Program) (ops:Array Oper) (Q:Exit→Act→World→Prop) (S:World→Prop) (A:Act) (I:List (Nat×Value)):Sc→List (Nat×Value)→World→Prop
  | .e,L,w=>Q .normal (puts A L) w
  | .p i r,L,w=> ∃o v,ops[i]? =some o∧Region.wanted o (yl ops I L)=true∧(∀a,Fa a (o.looksAt ops) (vls I L (o.looksAt ops))→∀w,S w→(execOp a.eval o).run P w= .ok (.value v) w)∧Sch P ops Q S A I r (pt o.dst v L) w
  | .k i r,L,w=> ∃o,ops[i]? =some o∧Region.wanted o (yl ops I L)=false∧Sch P ops Q S A I r (pt o.dst undef L) w
  | .c i r,L,w=> ∃o,ops[i]? =some o∧Region.wanted o (yl ops I L)=true∧∀a K,Fa a (o.looksAt ops) (vls I L (o.looksAt ops))→(∀v w',S w'→(S w'→Sch P ops Q S A I r (pt o.dst v L) w')→K (a.put o.dst v) w')→o.wp P a w K (NoPanic Q)
  | .b r s,L,w=>Sch P ops Q S A I r L w∧Sch P ops Q S A I s L w
theorem puts_size: ∀L,(puts A L).tmps.size=A.tmps.size
 | []=>rfl
 |(d,v)::L=>by show((puts A L).tmps.setIfInBounds d v).size=_;rw[Array.size_setIfInBounds,puts_size L]
theorem puts_get (hL: ∀p∈L,p.1<A.tmps.size) (t:Nat):(puts A L).tmps[t]?.getD undef=(match lk t L with|some v=>v|none=>A.tmps[t]?.getD undef):=by
 induction L with
 |nil=>rfl
 | cons p L ih=>
  obtain⟨d,v⟩:=p
  have hd:d<A.tmps.size:=hL (d,v) (by simp)
  show((puts A L).tmps.setIfInBounds d v)[t]?.getD undef=_
  unfold lk
  by_cases e:t=d
  ·subst e
   rw[if_pos rfl,Array.getElem?_setIfInBounds_self_of_lt (by rw[puts_size];exact hd)];rfl
  ·rw[if_neg e,Array.getElem?_setIfInBounds_ne (Ne.symm e)]
   exact ih (fun p hp=>hL p (by simp[hp]))
theorem pt_puts(d:Option Tmp)(v:Value):puts A (pt d v L)=(puts A L).put d v:=by cases d<;>rfl
theorem puts_vl (hL: ∀p∈L,p.1<A.tmps.size) {ti:List Nat} (hI:lives A ti=I) {t:Nat} (ht:t∈L.map (·.1)++ti):(puts A L).tmps[t]?.getD undef=vl t I L:=by
 rw[puts_get hL];unfold vl
 cases hk:lk t L with
 |some v=>rfl
 | none=>
  have h1:t∈ti:=by
   rcases List.mem_append.1 ht with h|h
   ·exfalso
    clear ht hI hL
    induction L with
    |nil=>simp at h
    | cons p L ih=>
     obtain⟨d,v⟩:=p;unfold lk at hk
     by_cases e:t=d
     ·rw[if_pos e] at hk;cases hk
     ·rw[if_neg e] at hk
      refine ih hk ?_
      rcases List.mem_cons.1 h with h|h
      ·exact absurd h e
      ·exact h
   ·exact h
  subst hI;clear ht hk hL
  induction ti with
  |nil=>simp at h1
  | cons s ti ih=>
   unfold lives lk
   by_cases e:t=s
   ·subst e;rw[if_pos rfl];rfl
   ·rw[if_neg e]
    exact ih (by rcases List.mem_cons.1 h1 with h|h;exact absurd h e;exact h)
theorem fa_of {a:Act}: ∀ {ts:List Nat},(∀t∈ts,a.tmps[t]?.getD undef=vl t I L)→Fa a ts (vls I L ts)
 | [],_=>trivial
 |t::ts,h=>⟨h t (by simp),fa_of fun s hs=>h s (by simp[hs])⟩
theorem yl_of {a:Act} {o:Oper} (h: ∀t∈o.looksAt ops,a.tmps[t]?.getD undef=vl t I L):Region.wanted o (yielded ops a.tmps)=Region.wanted o (yl ops I L):=by
 unfold Region.wanted
 cases hg:o.guard with
 |none=>rfl
 | some q=>
  obtain⟨g,b⟩:=q
  have:yielded ops a.tmps g=yl ops I L g:=by
   unfold yielded yl
   cases ht:(ops[g]?).bind (·.dst) with
   |none=>rfl
   |some t=>
    have h1:=h t (by simp[Oper.looksAt,hg,ht])
    simp only[Option.bind_some]
    rw[←h1]
    cases a.tmps[t]? with
    |none=>rfl
    |some v=>cases v<;>rfl
  simp only[this]
theorem sch_sound (hs:Region.noSelect ops=true) {ti:List Nat} (hI:lives A ti=I): ∀(f:Nat) (r:Sc) (l:Array Bool) (L:List (Nat×Value)) (w:World),chk ops A.tmps.size false l (L.map (·.1)++ti) r f=true→S w→(∀p∈L,p.1<A.tmps.size)→
  Sch P ops Q S A I r L w→wpAnyH P .any ops (NoPanic Q) S f l (puts A L) w:=by
 have hP:Pan (NoPanic Q):=fun _ _ _ _ _ h=>h
 have keepL: ∀ {o:Oper} {L:List (Nat×Value)} {v:Value} {D:List Nat},oks ops A.tmps.size D o=true→(∀p∈L,p.1<A.tmps.size)→∀p∈pt o.dst v L,p.1<A.tmps.size:=by
  intro o L v D ho hL p hp
  unfold oks at ho;unfold pt at hp
  cases hd:o.dst with
  |none=>rw[hd] at hp;exact hL p hp
  |some d=>
   rw[hd] at hp ho
   rcases List.mem_cons.1 hp with h|h
   ·subst h;simp only[Bool.and_eq_true,decide_eq_true_eq] at ho;exact ho.2
   ·exact hL p h
 have keepD: ∀ {o:Oper} {L:List (Nat×Value)} {v:Value},o.dst.toList++(L.map (·.1)++ti)=(pt o.dst v L).map (·.1)++ti:=by
  intro o L v;unfold pt;cases o.dst<;>rfl
 have facts: ∀ {o:Oper} {L:List (Nat×Value)},oks ops A.tmps.size (L.map (·.1)++ti) o=true→(∀p∈L,p.1<A.tmps.size)→∀t∈o.looksAt ops,(puts A L).tmps[t]?.getD undef=vl t I L:=by
  intro o L ho hL t ht
  refine puts_vl hL hI ?_
  unfold oks at ho
  simp only[Bool.and_eq_true] at ho
  simpa using List.all_eq_true.1 ho.1 t ht
 intro f
 induction f with
 |zero=>
  intro r l L w hc hS hL h
  cases r with
  |e=>exact wpAnyH_done (by unfold chk at hc;simp only[Bool.and_eq_true] at hc;exact List.isEmpty_iff.1 hc.2) (NoPanic.normal h) _
  |p=>unfold chk at hc;cases hc
  |c=>unfold chk at hc;cases hc
  |k=>unfold chk at hc;cases hc
  |b=>unfold chk at hc;cases hc
 | succ f ih=>
  have act: ∀ {t:Bool} {i:Nat} {r:Sc} {l:Array Bool} {L:List (Nat×Value)} {w:World},chk ops A.tmps.size t l (L.map (·.1)++ti) (.c i r) (f+1)=true→S w→(∀p∈L,p.1<A.tmps.size)→Sch P ops Q S A I (.c i r) L w→AllReadyH P .any ops (NoPanic Q) S f l (puts A L) w [i]:=by
   intro t i r l L w hc hS hL h
   unfold chk at hc;obtain⟨o,ho,hw,h⟩:=h;rw[ho] at hc
   simp only[Bool.and_eq_true] at hc
   refine AllReadyH.cons ho (fun K hK=>?_) AllReadyH.nil
   rw[yl_of (facts hc.1.1 hL),hw,if_pos rfl]
   refine h _ _ (fa_of (facts hc.1.1 hL)) fun v w' hS' h'=>hK.out _ _ hS' fun hS''=>?_
   rw[←pt_puts]
   exact ih r _ _ w' (by rw[←keepD];exact hc.2) hS'' (keepL hc.1.1 hL) (h' hS'')
  have acts: ∀ {l:Array Bool} {L:List (Nat×Value)} {w:World} (r:Sc),chk ops A.tmps.size true l (L.map (·.1)++ti) r (f+1)=true→S w→(∀p∈L,p.1<A.tmps.size)→Sch P ops Q S A I r L w→AllReadyH P .any ops (NoPanic Q) S f l (puts A L) w r.hd:=by
   intro l L w r
   induction r with
   |e=>intro hc;unfold chk at hc;simp at hc
   |p=>intro hc;unfold chk at hc;simp at hc
   |k=>intro hc;unfold chk at hc;simp at hc
   |c i r=>exact act
   |b r s hr hs2=>
    intro hc hS hL h
    unfold chk at hc
    simp only[Bool.and_eq_true] at hc
    intro j hj
    rcases List.mem_append.1 hj with hj|hj
    ·exact hr hc.1.2 hS hL h.1 j hj
    ·exact hs2 hc.2 hS hL h.2 j hj
  intro r l L w hc hS hL h
  cases r with
  |e=>exact wpAnyH_done (by unfold chk at hc;simp only[Bool.and_eq_true] at hc;exact List.isEmpty_iff.1 hc.2) (NoPanic.normal h) _
  |p i r=>
   unfold chk at hc;obtain⟨o,v,ho,hw,hy,h⟩:=h;rw[ho] at hc
   simp only[Bool.and_eq_true] at hc
   obtain⟨_,hc⟩:=hc
   refine tk i hP (by simp only[Bool.and_eq_true];exact⟨⟨hs,hc.1.1.2⟩,hc.1.2⟩) ho (by rw[yl_of (facts hc.1.1.1 hL)];exact hw) (hy _ (fa_of (facts hc.1.1.1 hL))) hS ?_
   rw[←pt_puts]
   exact ih r _ _ w (by rw[←keepD];exact hc.2) hS (keepL hc.1.1.1 hL) h
  |k i r=>
   unfold chk at hc;obtain⟨o,ho,hw,h⟩:=h;rw[ho] at hc
   simp only[Bool.and_eq_true] at hc
   obtain⟨_,hc⟩:=hc
   refine sk i hP (by simp only[Bool.and_eq_true];exact⟨⟨hs,hc.1.1.2⟩,hc.1.2⟩) ho (by rw[yl_of (facts hc.1.1.1 hL)];exact hw) hS ?_
   rw[←pt_puts]
   exact ih r _ _ w (by rw[←keepD];exact hc.2) hS (keepL hc.1.1.1 hL) h
  | c i r=>
   have hr:Region.ready .any ops l= [i]:=by
    unfold chk at hc;obtain⟨o,ho,_,_⟩:=h;rw[ho] at hc
    simp only[Bool.and_eq_true,Bool.false_or,beq_iff_eq] at hc
    exact hc.1.2
   exact wpAnyH_ready hr (by simp) (act hc hS hL h)
  | b r s=>
   have hr:r.hd++s.hd≠ []∧Region.ready .any ops l=r.hd++s.hd:=by
    unfold chk at hc
    simp only[Bool.and_eq_true,Bool.false_or,Bool.not_eq_true',beq_iff_eq] at hc
    exact⟨fun e=>by rw[e] at hc;simp at hc,hc.1.1.2⟩
   refine wpAnyH_ready hr.2 hr.1 (acts (.b r s) ?_ hS hL h)
   unfold chk at hc⊢
   simp only[Bool.and_eq_true] at hc⊢
   exact⟨⟨by simp,hc.1.2⟩,hc.2⟩
theorem wp_sch {id:Nat} {a:Act} (r:Sc) (ti:List Nat) (S:World→Prop) (hS:S w.drew)
  (h: ∀A,Hid (A=a)→Sch P ops Q S A I r [] w.drew)
  (hI:lives a ti=I:=by(repeat(apply livC;focus(conv=>lhs;whnf)));exact rfl)
  (hm:P.follows .mixedOrders=true:=by kernel_rfl)
  (hs:Region.noSelect ops=true:=by kernel_rfl)
  (hn:a.tmps.size=n:=by(conv=>lhs;whnf))
  (hc:chk ops n false (Array.replicate ops.size false) ti r ops.size=true:=by kernel_rfl):(Code.region id ops true).wp P Q a w:=
 wp_region_noPanic (wp_region_held_drew hm hS fun _=>sch_sound hs hI _ r _ [] _ (by subst hn;exact hc) hS (by simp) (h a (Lib.hid rfl)))
theorem below_rule {W w:World} (h:Below W.heap.size W w): ∀a,(W.cell? a).isSome=true→w.cell? a=W.cell? a:=fun a ha=>by
 obtain⟨u,hu⟩:=Option.isSome_iff_exists.1 ha
 exact h.cell (World.block_lt_of_cell? W a hu)
theorem below_frz {W w:World} (h:Below W.heap.size W w): ∀a,(W.cell? a).isSome=true→w.frozen? a=W.frozen? a:=fun a ha=>by
 obtain⟨u,hu⟩:=Option.isSome_iff_exists.1 ha
 exact h.frozen (World.block_lt_of_cell? W a hu)
theorem off_rule {M:Nat→Prop} {W w:World} (h:Off M W w): ∀a,¬M a.block→(W.cell? a).isSome=true→w.cell? a=W.cell? a:=fun a hm ha=>by
 obtain⟨u,hu⟩:=Option.isSome_iff_exists.1 ha
 exact h.cell (World.block_lt_of_cell? W a hu) hm
theorem off_frz {M:Nat→Prop} {W w:World} (h:Off M W w): ∀a,¬M a.block→(W.cell? a).isSome=true→w.frozen? a=W.frozen? a:=fun a hm ha=>by
 obtain⟨u,hu⟩:=Option.isSome_iff_exists.1 ha
 exact h.frozen (World.block_lt_of_cell? W a hu) hm
theorem wp_schS {id:Nat} {a:Act} (r:Sc) (ti:List Nat)
  (h: ∀A W,Hid (A=a)→Below w.heap.size w W→S W→Sch P ops Q S A I r [] W)
  (hd:S w.drew:=by first|exact Off.drew (by assumption)|exact Below.drew (by assumption))
  (hI:lives a ti=I:=by(repeat(apply livC;focus(conv=>lhs;whnf)));exact rfl)
  (hm:P.follows .mixedOrders=true:=by kernel_rfl)
  (hs:Region.noSelect ops=true:=by kernel_rfl)
  (hn:a.tmps.size=n:=by(conv=>lhs;whnf))
  (hc:chk ops n false (Array.replicate ops.size false) ti r ops.size=true:=by kernel_rfl):(Code.region id ops true).wp P Q a w:=
 wp_sch r ti S hd (fun A hA=>h A _ hA (Below.refl _ w).drew hd) hI hm hs hn hc
theorem wp_schH {id:Nat} {a:Act} (r:Sc) (ti:List Nat)
  (h: ∀A W,Hid (A=a)→Hid (W=w.drew)→S W∧(S W→Sch P ops Q S A I r [] W))
  (hI:lives a ti=I:=by(repeat(apply livC;focus(conv=>lhs;whnf)));exact rfl)
  (hm:P.follows .mixedOrders=true:=by kernel_rfl)
  (hs:Region.noSelect ops=true:=by kernel_rfl)
  (hn:a.tmps.size=n:=by(conv=>lhs;whnf))
  (hc:chk ops n false (Array.replicate ops.size false) ti r ops.size=true:=by kernel_rfl):(Code.region id ops true).wp P Q a w:=
 have hS:=(h a _ (Lib.hid rfl) (Lib.hid rfl)).1
 wp_sch r ti S hS (fun A hA=>(h A _ hA (Lib.hid rfl)).2 hS) hI hm hs hn hc
theorem wp_schB {id:Nat} {a:Act} (r:Sc) (ti:List Nat)
  (h: ∀A W,Hid (A=a)→Below w.heap.size w W→Sch P ops Q (Below w.heap.size w) A I r [] W)
  (hI:lives a ti=I:=by(repeat(apply livC;focus(conv=>lhs;whnf)));exact rfl)
  (hm:P.follows .mixedOrders=true:=by kernel_rfl)
  (hs:Region.noSelect ops=true:=by kernel_rfl)
  (hn:a.tmps.size=n:=by(conv=>lhs;whnf))
  (hc:chk ops n false (Array.replicate ops.size false) ti r ops.size=true:=by kernel_rfl):(Code.region id ops true).wp P Q a w:=
 wp_sch r ti _ (Below.refl _ w).drew (fun A hA=>h A _ hA (Below.refl _ w).drew) hI hm hs hn hc
variable {i:Nat} {r:Sc} {o:Oper} {ts:List Nat} {vs:List Value} {v:Value} {L':List (Nat×Value)} {w':World}
theorem stepB{W:World}(h:Below W.heap.size W w)(hb:Below w.heap.size w w'):Below W.heap.size W w':=h.tr hb
def Yv(x:Result Next)(v:Value)(w:World):Prop:=x= .ok (.value v) w
def Yn(x:Result Next)(n:Next)(w:World):Prop:=x= .ok n w
theorem Yv.mk:Yv (.ok (.value v) w) v w:=rfl
theorem Yn.mk{n:Next}:Yn (.ok n w) n w:=rfl
theorem tkO (k:Sch P ops Q S A I r L' w)
  (hi:ops[i]? =some o:=by(conv=>lhs;whnf;arg 1;whnf))
  (ht:o.looksAt ops=ts:=by(conv=>lhs;reduce))
  (hv:vls I L ts=vs:=by(repeat(apply vlC;focus(conv=>lhs;whnf)));exact rfl)
  (hw:Region.wanted o (yl ops I L)=true:=by kernel_rfl)
  (hy: ∀a,Fa a ts vs→∀w,S w→Yv ((execOp a.eval o).run P w) v w:=by intro a hF w hSw;(try dsimp only[Fa] at hF);(try dsimp only at hSw);(first|replace hSw:=below_rule hSw|replace hSw:=off_rule hSw|skip);go_simp;exact Yv.mk)
  (hL:pt o.dst v L=L':=by(conv=>lhs;whnf)):Sch P ops Q S A I (.p i r) L w:=by
 subst ht;subst hv;subst hL
 exact⟨o,v,hi,hw,hy,k⟩
theorem skO (k:Sch P ops Q S A I r L' w)
  (hi:ops[i]? =some o:=by(conv=>lhs;whnf;arg 1;whnf))
  (hw:Region.wanted o (yl ops I L)=false:=by kernel_rfl)
  (hL:pt o.dst undef L=L':=by(conv=>lhs;whnf)):Sch P ops Q S A I (.k i r) L w:=by
 subst hL
 exact⟨o,hi,hw,k⟩
theorem isA(h:Sch P ops Q S A I (.c i r) L w):Sch P ops Q S A I (.c i r) L w:=h
theorem brA{s:Sc}(h:Sch P ops Q S A I r L w)(k:Sch P ops Q S A I s L w):Sch P ops Q S A I (.b r s) L w:=⟨h,k⟩
theorem isP(h:Sch P ops Q S A I (.p i r) L w):Sch P ops Q S A I (.p i r) L w:=h
theorem ruO (hS:S w') (k:Sch P ops Q S A I r L' w')
  (hi:ops[i]? =some o:=by(conv=>lhs;whnf;arg 1;whnf))
  (ht:o.looksAt ops=ts:=by(conv=>lhs;reduce))
  (hv:vls I L ts=vs:=by(repeat(apply vlC;focus(conv=>lhs;whnf)));exact rfl)
  (hw:Region.wanted o (yl ops I L)=true:=by kernel_rfl)
  (hy: ∀a,Fa a ts vs→Yn ((execOp a.eval o).run P w) (.value v) w':=by intro a hF;(try dsimp only[Fa] at hF);go_simp;exact Yn.mk)
  (hL:pt o.dst v L=L':=by(conv=>lhs;whnf)):Sch P ops Q S A I (.c i r) L w:=by
 subst ht;subst hv;subst hL
 refine⟨o,hi,hw,fun a K hF hK=>?_⟩
 unfold Oper.wp;rw[show _=_ from hy a hF]
 exact hK _ _ hS fun _=>k
theorem isK(h:Sch P ops Q S A I (.k i r) L w):Sch P ops Q S A I (.k i r) L w:=h
theorem rsO (hS:S w') (k:Sch P ops Q S A I r L' w')
  (hi:ops[i]? =some o:=by(conv=>lhs;whnf;arg 1;whnf))
  (ht:o.looksAt ops=ts:=by(conv=>lhs;reduce))
  (hv:vls I L ts=vs:=by(repeat(apply vlC;focus(conv=>lhs;whnf)));exact rfl)
  (hw:Region.wanted o (yl ops I L)=true:=by kernel_rfl)
  (hy: ∀a,Fa a ts vs→Yn ((execOp a.eval o).run P w) .skip w':=by intro a hF;(try dsimp only[Fa] at hF);go_simp;exact Yn.mk)
  (hL:pt o.dst undef L=L':=by(conv=>lhs;whnf)):Sch P ops Q S A I (.c i r) L w:=by
 subst ht;subst hv;subst hL
 refine⟨o,hi,hw,fun a K hF hK=>?_⟩
 unfold Oper.wp;rw[show _=_ from hy a hF]
 exact hK _ _ hS fun _=>k
theorem acO
  (h: ∀a K,Fa a ts vs→Shut (∀v w',S w'→(S w'→Sch P ops Q S A I r (pt o.dst v L) w')→K (a.put o.dst v) w')→o.wp P a w K (NoPanic Q))
  (hi:ops[i]? =some o:=by(conv=>lhs;whnf;arg 1;whnf))
  (ht:o.looksAt ops=ts:=by(conv=>lhs;reduce))
  (hv:vls I L ts=vs:=by(repeat(apply vlC;focus(conv=>lhs;whnf)));exact rfl)
  (hw:Region.wanted o (yl ops I L)=true:=by kernel_rfl):Sch P ops Q S A I (.c i r) L w:=by
 subst ht;subst hv
 exact⟨o,hi,hw,h⟩
theorem evF {a:Act} {t:Nat} (h:a.tmps[t]?.getD undef=v):a.eval (.tmp t)=v:=by
 show a.tmps.getD t undef=v
 rw[←h,Array.getD_eq_getD_getElem?]
theorem ifw {y:Nat→Option Bool} {p q:Prop} (hg:o.guard=none) (h:if Region.wanted o y=true then p else q):p:=by
 rwa [if_pos (by simp[Region.wanted,hg])] at h
theorem caO {f:FuncId} {args:Array Value} {R:Ending→World→Prop} (c:Calls P f args w R)
  (k: ∀e w',R e w'→∃v,e= .returned v∧S w'∧Sch P ops Q S A I r (pt o.dst v L) w')
  (hi:ops[i]? =some o:=by(conv=>lhs;whnf;arg 1;whnf))
  (ht:o.looksAt ops=ts:=by(conv=>lhs;reduce))
  (hv:vls I L ts=vs:=by(repeat(apply vlC;focus(conv=>lhs;whnf)));exact rfl)
  (hw:Region.wanted o (yl ops I L)=true:=by kernel_rfl)
  (hy: ∀a,Fa a ts vs→Yn ((execOp a.eval o).run P w) (.enter f args) w:=by intro a hF;(try dsimp only[Fa] at hF);go_simp;exact Yn.mk):Sch P ops Q S A I (.c i r) L w:=by
 subst ht;subst hv
 refine⟨o,hi,hw,fun a K hF hK=>?_⟩
 unfold Oper.wp;rw[show _=_ from hy a hF,Oper.upon_enter]
 refine Calls.mono c fun e w' hR=>?_
 obtain⟨v,rfl,hS,h⟩:=k e w' hR
 exact hK _ _ hS fun _=>h
theorem clO {f:FuncId} {args:Array Value} (c:Calls P f args w fun e w'=>e= .returned v∧Below w.heap.size w w')
  (k: ∀w',Below w.heap.size w w'→S w'→Sch P ops Q S A I r L' w')
  (hS: ∀w',Below w.heap.size w w'→S w':=by intro w' hb;first|exact stepB (by assumption) hb|exact Off.step (by assumption) hb)
  (hi:ops[i]? =some o:=by(conv=>lhs;whnf;arg 1;whnf))
  (ht:o.looksAt ops=ts:=by(conv=>lhs;reduce))
  (hv:vls I L ts=vs:=by(repeat(apply vlC;focus(conv=>lhs;whnf)));exact rfl)
  (hw:Region.wanted o (yl ops I L)=true:=by kernel_rfl)
  (hy: ∀a,Fa a ts vs→Yn ((execOp a.eval o).run P w) (.enter f args) w:=by intro a hF;(try dsimp only[Fa] at hF);go_simp;exact Yn.mk)
  (hL:pt o.dst v L=L':=by(conv=>lhs;whnf)):Sch P ops Q S A I (.c i r) L w:=by
 subst hL
 refine caO c (fun e w' h=>?_) hi ht hv hw hy
 obtain⟨rfl,h⟩:=h
 exact⟨_,rfl,hS w' h,k w' h (hS w' h)⟩
theorem setCell_same {w:World} {a:Addr} {v:Value} (h:w.cell? a=some v):w.setCell a v=w:=by
 have key: ∀(f:Obj→Obj) (H:Array Obj),(∀o,H[a.block]? =some o→f o=o)→H.modify a.block f=H:=by
  intro f H hf
  apply Array.ext_getElem?
  intro i
  rw[Array.getElem?_modify]
  split
  ·next e=>
   subst e
   cases hh:H[a.block]? with
   |none=>rfl
   |some o=>exact congrArg some (hf o hh)
  ·rfl
 have hw:w= {w with heap:=w.heap}:=rfl;unfold World.setCell;rw[key _ w.heap (fun o ho=>?_)];unfold World.cell? at h;rw[ho] at h
 cases o with
 | cells c e f=>
  simp only at h⊢
  split at h
  ·cases h
  ·next hs=>
   rw[if_neg hs]
   congr 1
   apply Array.ext_getElem?
   intro i
   by_cases e:i=a.off
   ·subst e
    rw[Array.getElem?_setIfInBounds_self_of_lt (Array.getElem?_eq_some_iff.1 h).1,h]
   ·rw[Array.getElem?_setIfInBounds_ne (Ne.symm e)]
 |_=>rfl
theorem smO (k:Sch P ops Q S A I r L' w)
  (hi:ops[i]? =some o:=by(conv=>lhs;whnf;arg 1;whnf))
  (ht:o.looksAt ops=ts:=by(conv=>lhs;reduce))
  (hv:vls I L ts=vs:=by(repeat(apply vlC;focus(conv=>lhs;whnf)));exact rfl)
  (hw:Region.wanted o (yl ops I L)=true:=by kernel_rfl)
  (hS:S w:=by assumption)
  (hy: ∀a,Fa a ts vs→Yn ((execOp a.eval o).run P w) .skip w:=by intro a hF;(try dsimp only[Fa] at hF);(first|have hr:=below_rule hS|have hr:=off_rule hS);(first|have hf:=below_frz hS|have hf:=off_frz hS);go_simp;(try simp only[setCell_same,Option.isSome_some,not_false_eq_true, *]);exact Yn.mk)
  (hL:pt o.dst undef L=L':=by(conv=>lhs;whnf)):Sch P ops Q S A I (.c i r) L w:=rsO hS k hi ht hv hw hy hL
theorem stC {g j:Nat} {u:Value} (hc:w.cell? ⟨g,j,none⟩=some u) (hf:w.frozen? ⟨g,j,none⟩=false)
  (k:S (w.setCell ⟨g,j,none⟩ v)→Sch P ops Q S A I r L' (w.setCell ⟨g,j,none⟩ v))
  (hi:ops[i]? =some o:=by(conv=>lhs;whnf;arg 1;whnf))
  (ht:o.looksAt ops=ts:=by(conv=>lhs;reduce))
  (hv:vls I L ts=vs:=by(repeat(apply vlC;focus(conv=>lhs;whnf)));exact rfl)
  (hw:Region.wanted o (yl ops I L)=true:=by kernel_rfl)
  (hy: ∀a,Fa a ts vs→w.cell? ⟨g,j,none⟩=some u→w.frozen? ⟨g,j,none⟩=false→Yn ((execOp a.eval o).run P w) .skip (w.setCell ⟨g,j,none⟩ v):=by intro a hF hc hf;(try dsimp only[Fa] at hF);go_simp;exact Yn.mk)
  (hS:S (w.setCell ⟨g,j,none⟩ v):=by refine Off.set ?_ ?_ _;assumption;rfl)
  (hL:pt o.dst undef L=L':=by(conv=>lhs;whnf)):Sch P ops Q S A I (.c i r) L w:=
 rsO hS (k hS) hi ht hv hw (fun a h=>hy a h hc hf) hL
def C3(w:World)(g:Nat)(x y z:Value):Prop:=w.cell? ⟨g,0,none⟩=some x∧w.frozen? ⟨g,0,none⟩=false∧w.cell? ⟨g,1,none⟩=some y∧w.frozen? ⟨g,1,none⟩=false∧w.cell? ⟨g,2,none⟩=some z∧w.frozen? ⟨g,2,none⟩=false
theorem Rx.c3{g:Nat}{x y z:Value}(h:Rx w g [x,y,z]):C3 w g x y z:=⟨h.at 0 rfl,h.fr 0 rfl,h.at 1 rfl,h.fr 1 rfl,h.at 2 rfl,h.fr 2 rfl⟩
def set3(w:World)(g:Nat)(x y z:Value):World:=((w.setCell ⟨g,0,none⟩ x).setCell ⟨g,1,none⟩ y).setCell ⟨g,2,none⟩ z
theorem off_set3{M:Nat→Prop}{W0:World}{g:Nat}{x y z:Value}(ho:Off M W0 w)(hM:M g):Off M W0 (set3 w g x y z):=((ho.set (p:=⟨g,0,none⟩) hM _).set (p:=⟨g,1,none⟩) hM _).set (p:=⟨g,2,none⟩) hM _
theorem alO {zs:List Value} {t:TypeId} {L':Nat→List (Nat×Value)}
  (k: ∀W g,Rx W g zs→Below w.heap.size w W→w.heap.size≤g→S W→Sch P ops Q S A I r (L' g) W)
  (hi:ops[i]? =some o:=by(conv=>lhs;whnf;arg 1;whnf))
  (ht:o.looksAt ops=ts:=by(conv=>lhs;reduce))
  (hv:vls I L ts=vs:=by(repeat(apply vlC;focus(conv=>lhs;whnf)));exact rfl)
  (hw:Region.wanted o (yl ops I L)=true:=by kernel_rfl)
  (hy: ∀u,Fa u ts vs→Yn ((execOp u.eval o).run P w) (.value (.pointer (some ⟨w.heap.size,0,none⟩))) (w.alloc (.cells zs.toArray t)):=by intro a hF;(try dsimp only[Fa] at hF);go_simp;exact Yn.mk)
  (hS:S (w.alloc (.cells zs.toArray t)):=by first|exact stepB (by assumption) ((Below.refl _ _).alloc (Nat.le_refl _) _)|exact Off.step (by assumption) ((Below.refl _ _).alloc (Nat.le_refl _) _))
  (hL: ∀g,pt o.dst (.pointer (some ⟨g,0,none⟩)) L=L' g:=by(intro g;conv=>lhs;whnf)):Sch P ops Q S A I (.c i r) L w:=
 ruO hS (k _ _ (Rx.new w _ rfl zs t) ((Below.refl _ _).alloc (Nat.le_refl _) _) (Nat.le_refl _) hS) hi ht hv hw hy (hL _)
theorem below_set3{W:World}{g:Nat}{x y z:Value}(h:Below W.heap.size W w)(hg:W.heap.size≤g):Below W.heap.size W (set3 w g x y z):=((h.setCell (p:=⟨g,0,none⟩) hg _).setCell (p:=⟨g,1,none⟩) hg _).setCell (p:=⟨g,2,none⟩) hg _
theorem st3 {g:Nat} {a b c x y z:Value} (hR:Rx w g [a,b,c])
  (k: ∀W,Rx W g [x,y,z]→Off (fun b=>b=g) w W→S W→Sch P ops Q S A I r L' W)
  (hi:ops[i]? =some o:=by(conv=>lhs;whnf;arg 1;whnf))
  (ht:o.looksAt ops=ts:=by(conv=>lhs;reduce))
  (hv:vls I L ts=vs:=by(repeat(apply vlC;focus(conv=>lhs;whnf)));exact rfl)
  (hw:Region.wanted o (yl ops I L)=true:=by kernel_rfl)
  (hy: ∀u,Fa u ts vs→C3 w g a b c→Yn ((execOp u.eval o).run P w) .skip (set3 w g x y z):=by intro a hF hc;(try dsimp only[Fa] at hF);dsimp only[C3] at hc;go_simp;exact Yn.mk)
  (hS:S (set3 w g x y z):=by first|exact off_set3 (by assumption) rfl|exact below_set3 (by assumption) (by assumption)|exact off_set3 (by assumption) (by simp))
  (hL:pt o.dst undef L=L':=by(conv=>lhs;whnf)):Sch P ops Q S A I (.c i r) L w:=
 rsO hS (k _ (hR.put3 _ _ _) (off_set3 (Off.refl _ w) rfl) hS) hi ht hv hw (fun u h=>hy u h hR.c3) hL
theorem enO {a a':Act} (hA:Hid (A=a)) (k:Q .normal a' w) (hp:puts a L=a':=by(conv=>lhs;simp only[pt,puts,Act.put,szA,szB,szC])):Sch P ops Q S A I .e L w:=by
 obtain rfl:=hA.out;subst hp
 exact k
end
end Go.Proofs.YtinmmkcjjlconaaGreat
namespace Go.Proofs.YtinmmkcjjlconaaGreat
open Go.RowKit W
open Pl (bval enc bv nb bv_nb nb_size_le nb_size_zero nb_size_mono nb_bv_size bv_lt cmpN nb_inj)
open Rq
def rawB(neg:Bool)(s t:ByteArray):Bool:=rightB s&&rightB t&&decide (t.size≠0)&& !(decide (s.size=0)&&neg)&&decide (Nat.gcd (bv s) (bv t)=1)
theorem rawB_s{neg:Bool}{s t:ByteArray}(h:rightB s=false):rawB neg s t=false:=by simp[rawB,h]
theorem rawB_t{neg:Bool}{s t:ByteArray}(h:rightB t=false):rawB neg s t=false:=by simp[rawB,h]
theorem rawB_den{neg:Bool}{s t:ByteArray}(h:t.size=0):rawB neg s t=false:=by simp[rawB,h]
theorem rawB_neg{s t:ByteArray}(h:s.size=0):rawB true s t=false:=by simp[rawB,h]
theorem bv_size0{s:ByteArray}(h:s.size=0):bv s=0:=by have:=bv_lt s;rw[h] at this;simp at this;exact this
theorem rawB_zero {s t:ByteArray} (h:s.size=0) (h2:rightB t=true) (h3: ¬t.size=0):rawB false s t=decide (bv t=1):=by
 simp only[rawB,rightB_nil h,h2,bv_size0 h,Nat.gcd_zero_left]
 simp[h3]
theorem rawB_gcd {neg:Bool} {s t:ByteArray} (h1:rightB s=true) (h2:rightB t=true) (h3: ¬t.size=0) (h4: ¬s.size=0):rawB neg s t=decide (Nat.gcd (bv s) (bv t)=1):=by
 simp[rawB,h1,h2,h3,h4]
theorem cmp_one (x:Nat):(cmpN x 1==0)=decide (x=1):=by
 unfold cmpN
 by_cases h:x=1
 ·subst h;rfl
 ·rw[decide_eq_false h]
  split
  ·rfl
  ·split
   ·rfl
   ·omega
theorem rlow_any (neg:Bool) (n d:Nat) (w:World) (hd:0<d) (sn:(nb n).size≤134217728) (sd:(nb d).size≤134217728):
  Calls Tryz.prog 63 #[.bool neg,.string (nb n),.string (nb d)] w fun e w'=>e= .returned (rv (mk neg n d))∧Below w.heap.size w w':=by
 have sg:=Nat.le_trans (nb_size_mono (Nat.le_of_dvd hd (Nat.gcd_dvd_right n d))) sd;have hg:0<Nat.gcd n d:=Nat.gcd_pos_of_pos_right n hd;have L1:=Lib.hid (mk_abs (neg:=neg) (n:=n) hd);have L2:=Lib.hid (mk_den (neg:=neg) (n:=n) hd)
 by_cases h0:n=0
 ·subst h0
  have he:=nb0_nil;have hz:=Lib.hid (mk_zero neg d)
  go_enter Tryz.func63,Tryz.ntmps63
  have⟨bR,ag⟩:=opn1 w [.bool false,.string ⟨#[]⟩,.string ⟨#[]⟩] 33
  go_upto_region 1 with fail
  generalize w.alloc (.cells #[.bool false,.string ⟨#[]⟩,.string ⟨#[]⟩] 33)=W0 at*;obtain⟨gR,hgR⟩: ∃g,g=w.heap.size:=⟨_,rfl⟩;rw[←hgR] at bR
  simp only[←hgR]
  have kgR:w.heap.size≤gR:=by omega
  clear hgR
  go_wp2_with fail
  with_reducible refine(ofn_any 1 _ (by omega) (by omega)).mono ?_
  rw[show(1:Int).toNat=1 from rfl];rintro e wZ ⟨rfl,am⟩;replace ag:=ag.tr am;replace bR:=bR.below am;clear am;have⟨cgR0,fgR0,cgR1,fgR1,cgR2,fgR2⟩:=bR.all3
  go_wp2_with fail
  refine bodyPost_ret (v:=.agg #[.bool false,.string ⟨#[]⟩,.string (nb 1)]) (by simp[results,Tryz.results63,go_sem,cgR0,cgR1,cgR2]) rfl ⟨by rw[hz.out,rv,←nb_0];rfl,(((ag.setCell kgR _).setCell kgR _).setCell kgR _)⟩
 ·have hne:=nb_ne h0
  have hie:=nb_isE h0;have L3:=Lib.hid (mk_neg_pos (neg:=neg) hd h0)
  go_enter Tryz.func63,Tryz.ntmps63
  have⟨bR,ag⟩:=opn1 w [.bool false,.string ⟨#[]⟩,.string ⟨#[]⟩] 33
  go_upto_region 1 with fail
  generalize w.alloc (.cells #[.bool false,.string ⟨#[]⟩,.string ⟨#[]⟩] 33)=W0 at*;obtain⟨gR,hgR⟩: ∃g,g=w.heap.size:=⟨_,rfl⟩;rw[←hgR] at bR
  simp only[←hgR]
  have kgR:w.heap.size≤gR:=by omega
  clear hgR
  go_wp2_with fail
  with_reducible refine(rgcd_any (nb n) (nb d) _ sn sd).mono ?_
  rw[bv_nb,bv_nb];rintro e wZ ⟨rfl,am⟩;replace ag:=ag.tr am;replace bR:=bR.below am;clear am;have sN:=div_size (y:=Nat.gcd n d) sn;have sD:=div_size (y:=Nat.gcd n d) sd
  go_wp2_with fail
  with_reducible refine(quo_any (nb n) (nb (Nat.gcd n d)) _ sn sg (by rw[bv_nb];exact hg)).mono ?_
  rw[bv_nb,bv_nb];rintro e wZ ⟨rfl,am⟩;replace ag:=ag.tr am;replace bR:=bR.below am;clear am
  go_wp2_with fail
  with_reducible refine(quo_any (nb d) (nb (Nat.gcd n d)) _ sd sg (by rw[bv_nb];exact hg)).mono ?_
  rw[bv_nb,bv_nb];rintro e wZ ⟨rfl,am⟩;replace ag:=ag.tr am;replace bR:=bR.below am;clear am;have⟨cgR0,fgR0,cgR1,fgR1,cgR2,fgR2⟩:=bR.all3
  go_wp2_with fail
  refine bodyPost_ret (v:=.agg #[.bool neg,.string (nb (n/Nat.gcd n d)),.string (nb (d/Nat.gcd n d))]) (by simp[results,Tryz.results63,go_sem,cgR0,cgR1,cgR2]) rfl ⟨congrArg Ending.returned (ret_rv L3.out.symm L1.out.symm L2.out.symm),(((ag.setCell kgR _).setCell kgR _).setCell kgR _)⟩
theorem rright2_any (neg:Bool) (s t:ByteArray) (w:World) (hs:s.size≤134217728) (ht:t.size≤134217728):
  Calls Tryz.prog 52 #[.agg #[.bool neg,.string s,.string t]] w fun e w'=>e= .returned (.bool (rawB neg s t))∧Below w.heap.size w w':=by
 by_cases h1:rightB s=true
 ·by_cases h2:rightB t=true
  ·by_cases h3:t.size=0
   ·have HB:=Lib.hid (rawB_den (neg:=neg) (s:=s) h3)
    have he:t.toList= []:=toList_nil.2 h3;clear h3
    go_enter Tryz.func52,Tryz.ntmps52
    have⟨bA,ag⟩:=opn1 w [.bool neg,.string s,.string t] 33
    go_upto_region 1 with fail
    generalize w.alloc (.cells #[.bool neg,.string s,.string t] 33)=W0 at*;obtain⟨gA,hgA⟩: ∃g,g=w.heap.size:=⟨_,rfl⟩;rw[←hgA] at bA
    simp only[←hgA]
    have kgA:w.heap.size≤gA:=by omega
    clear hgA;have⟨cgA0,fA0,cA1,fA1,cgA2,fA2⟩:=bA.all3
    go_wp2_with fail
    clear cgA0 fA0 cA1 fA1 cgA2 fA2
    with_reducible refine(rright_any s _ (by omega)).mono ?_
    rintro e w' ⟨rfl,rfl⟩;have⟨cgA0,fA0,cA1,fA1,cgA2,fA2⟩:=bA.all3
    go_wp2_with fail
    clear cgA0 fA0 cA1 fA1 cgA2 fA2
    with_reducible refine(rright_any t _ (by omega)).mono ?_
    rintro e w' ⟨rfl,rfl⟩;have⟨cgA0,fA0,cA1,fA1,cgA2,fA2⟩:=bA.all3
    go_wp2_with fail
    go_ret
    exact⟨ret_bool (by rw[HB.out]),ag⟩
   ·have hne: ¬t.toList= []:=fun e=>h3 (toList_nil.1 e)
    have hie:t.toList.isEmpty=false:=by simpa using hne
    by_cases h4:s.size=0
    ·have hse:s.toList= []:=toList_nil.2 h4
     cases neg
     ·have HB:=Lib.hid (rawB_zero (t:=t) h4 h2 h3)
      have ht1:=bv_bound ht
      go_enter Tryz.func52,Tryz.ntmps52
      have⟨bA,ag⟩:=opn1 w [.bool false,.string s,.string t] 33
      go_upto_region 1 with fail
      generalize w.alloc (.cells #[.bool false,.string s,.string t] 33)=W0 at*;obtain⟨gA,hgA⟩: ∃g,g=w.heap.size:=⟨_,rfl⟩;rw[←hgA] at bA
      simp only[←hgA]
      have kgA:w.heap.size≤gA:=by omega
      clear hgA;have⟨cgA0,fA0,cA1,fA1,cgA2,fA2⟩:=bA.all3
      go_wp2_with fail
      clear cgA0 fA0 cA1 fA1 cgA2 fA2
      with_reducible refine(rright_any s _ (by omega)).mono ?_
      rintro e w' ⟨rfl,rfl⟩;have⟨cgA0,fA0,cA1,fA1,cgA2,fA2⟩:=bA.all3
      go_wp2_with fail
      clear cgA0 fA0 cA1 fA1 cgA2 fA2
      with_reducible refine(rright_any t _ (by omega)).mono ?_
      rintro e w' ⟨rfl,rfl⟩;have⟨cgA0,fA0,cA1,fA1,cgA2,fA2⟩:=bA.all3
      go_wp2_with fail
      clear cgA0 fA0 cA1 fA1 cgA2 fA2;have cA0:=bA.at 0 rfl;have cA2:=bA.at 2 rfl;replace ag:=ag.drew;replace bA:=bA.drew
      go_region_held3 (fun w'=>w'.cell? ⟨gA,0,none⟩=some (.bool false)∧w'.cell? ⟨gA,2,none⟩=some (.string t)) (first|exact⟨bA.at 0 rfl,bA.at 2 rfl⟩|go_keep) (first|(go_at_call 59;with_reducible refine(ofn_any 1 _ (by omega) (by omega)).mono ?_;rintro e wX ⟨rfl,am⟩;replace ag:=ag.tr am;replace bA:=bA.below am;clear am)|(go_at_call 71;with_reducible refine(cmps_any t _ _ (by omega) (nbs (by decide) (by decide))).mono ?_;rintro e wX ⟨rfl,rfl⟩))
      all_goals
       go_wp2_with fail
       go_ret
       exact⟨ret_bool (by rw[HB.out,bv_nb];exact cmp_one _),ag⟩
     ·have HB:=Lib.hid (rawB_neg (t:=t) h4)
      go_enter Tryz.func52,Tryz.ntmps52
      have⟨bA,ag⟩:=opn1 w [.bool true,.string s,.string t] 33
      go_upto_region 1 with fail
      generalize w.alloc (.cells #[.bool true,.string s,.string t] 33)=W0 at*;obtain⟨gA,hgA⟩: ∃g,g=w.heap.size:=⟨_,rfl⟩;rw[←hgA] at bA
      simp only[←hgA]
      have kgA:w.heap.size≤gA:=by omega
      clear hgA;have⟨cgA0,fA0,cA1,fA1,cgA2,fA2⟩:=bA.all3
      go_wp2_with fail
      clear cgA0 fA0 cA1 fA1 cgA2 fA2
      with_reducible refine(rright_any s _ (by omega)).mono ?_
      rintro e w' ⟨rfl,rfl⟩;have⟨cgA0,fA0,cA1,fA1,cgA2,fA2⟩:=bA.all3
      go_wp2_with fail
      clear cgA0 fA0 cA1 fA1 cgA2 fA2
      with_reducible refine(rright_any t _ (by omega)).mono ?_
      rintro e w' ⟨rfl,rfl⟩;have⟨cgA0,fA0,cA1,fA1,cgA2,fA2⟩:=bA.all3
      go_upto_region 6 with fail
      go_quiet (fail)
      have ag:=below_drewN ag nq
      go_wp2_with fail
      go_ret
      exact⟨ret_bool (by rw[HB.out]),ag⟩
    ·have hne2: ¬s.toList= []:=fun e=>h4 (toList_nil.1 e)
     have hie2:s.toList.isEmpty=false:=by simpa using hne2
     have HB:=Lib.hid (rawB_gcd (neg:=neg) h1 h2 h3 h4);have sG:(nb (Nat.gcd (bv s) (bv t))).size≤134217728+134217728:=gcd_size (bv_bound hs) (bv_bound ht)
     go_enter Tryz.func52,Tryz.ntmps52
     have⟨bA,ag⟩:=opn1 w [.bool neg,.string s,.string t] 33
     go_upto_region 1 with fail
     generalize w.alloc (.cells #[.bool neg,.string s,.string t] 33)=W0 at*;obtain⟨gA,hgA⟩: ∃g,g=w.heap.size:=⟨_,rfl⟩;rw[←hgA] at bA
     simp only[←hgA]
     have kgA:w.heap.size≤gA:=by omega
     clear hgA;have⟨cgA0,fA0,cA1,fA1,cgA2,fA2⟩:=bA.all3
     go_wp2_with fail
     clear cgA0 fA0 cA1 fA1 cgA2 fA2
     with_reducible refine(rright_any s _ (by omega)).mono ?_
     rintro e w' ⟨rfl,rfl⟩;have⟨cgA0,fA0,cA1,fA1,cgA2,fA2⟩:=bA.all3
     go_wp2_with fail
     clear cgA0 fA0 cA1 fA1 cgA2 fA2
     with_reducible refine(rright_any t _ (by omega)).mono ?_
     rintro e w' ⟨rfl,rfl⟩;have⟨cgA0,fA0,cA1,fA1,cgA2,fA2⟩:=bA.all3
     go_wp2_with fail
     clear cgA0 fA0 cA1 fA1 cgA2 fA2
     with_reducible refine(rgcd_any s t _ hs ht).mono ?_
     rintro e wZ ⟨rfl,am⟩;replace ag:=ag.tr am;replace bA:=bA.below am;clear am
     go_wp2_with fail
     with_reducible refine(ofn_any 1 _ (by omega) (by omega)).mono ?_
     rw[show(1:Int).toNat=1 from rfl];rintro e wZ ⟨rfl,am⟩;replace ag:=ag.tr am;replace bA:=bA.below am;clear am
     go_wp2_with fail
     with_reducible refine(cmps_any (nb (Nat.gcd (bv s) (bv t))) (nb 1) _ (by omega) (nbs (by decide) (by decide))).mono ?_
     rw[bv_nb,bv_nb];rintro e w' ⟨rfl,rfl⟩
     go_wp2_with fail
     go_ret
     exact⟨ret_bool (by rw[HB.out];exact cmp_one _),ag⟩
  ·have h2':rightB t=false:=by simpa using h2
   have HB:=Lib.hid (rawB_t (neg:=neg) (s:=s) h2')
   go_enter Tryz.func52,Tryz.ntmps52
   have⟨bA,ag⟩:=opn1 w [.bool neg,.string s,.string t] 33
   go_upto_region 1 with fail
   generalize w.alloc (.cells #[.bool neg,.string s,.string t] 33)=W0 at*;obtain⟨gA,hgA⟩: ∃g,g=w.heap.size:=⟨_,rfl⟩;rw[←hgA] at bA
   simp only[←hgA]
   have kgA:w.heap.size≤gA:=by omega
   clear hgA;have⟨cgA0,fA0,cA1,fA1,cgA2,fA2⟩:=bA.all3
   go_wp2_with fail
   clear cgA0 fA0 cA1 fA1 cgA2 fA2
   with_reducible refine(rright_any s _ (by omega)).mono ?_
   rintro e w' ⟨rfl,rfl⟩;have⟨cgA0,fA0,cA1,fA1,cgA2,fA2⟩:=bA.all3
   go_wp2_with fail
   clear cgA0 fA0 cA1 fA1 cgA2 fA2
   with_reducible refine(rright_any t _ (by omega)).mono ?_
   rintro e w' ⟨rfl,rfl⟩;have⟨cgA0,fA0,cA1,fA1,cgA2,fA2⟩:=bA.all3
   go_wp2_with fail
   go_ret
   exact⟨ret_bool (by rw[HB.out]),ag⟩
 ·have h1':rightB s=false:=by simpa using h1
  have HB:=Lib.hid (rawB_s (neg:=neg) (t:=t) h1')
  go_enter Tryz.func52,Tryz.ntmps52
  have⟨bA,ag⟩:=opn1 w [.bool neg,.string s,.string t] 33
  go_upto_region 1 with fail
  generalize w.alloc (.cells #[.bool neg,.string s,.string t] 33)=W0 at*;obtain⟨gA,hgA⟩: ∃g,g=w.heap.size:=⟨_,rfl⟩;rw[←hgA] at bA
  simp only[←hgA]
  have kgA:w.heap.size≤gA:=by omega
  clear hgA;have⟨cgA0,fA0,cA1,fA1,cgA2,fA2⟩:=bA.all3
  go_wp2_with fail
  clear cgA0 fA0 cA1 fA1 cgA2 fA2
  with_reducible refine(rright_any s _ (by omega)).mono ?_
  rintro e w' ⟨rfl,rfl⟩;have⟨cgA0,fA0,cA1,fA1,cgA2,fA2⟩:=bA.all3
  go_wp2_with fail
  clear cgA0 fA0 cA1 fA1 cgA2 fA2
  with_reducible refine(rright_any t _ (by omega)).mono ?_
  rintro e w' ⟨rfl,rfl⟩;have⟨cgA0,fA0,cA1,fA1,cgA2,fA2⟩:=bA.all3
  go_wp2_with fail
  go_ret
  exact⟨ret_bool (by rw[HB.out]),ag⟩
theorem rightB_nb (n:Nat):rightB (nb n)=true:=by
 rcases Nat.eq_zero_or_pos (nb n).size with h|h
 ·exact rightB_nil h
 ·rw[rightB_get h]
  have h2:=Pl.tk_pos (n:=n) (m:=1) (by omega) (by omega)
  have h3:=Pl.tk_succ (nb n) 0 h;rw[Pl.tk_zero,Nat.zero_mul,Nat.zero_add,Nat.zero_add] at h3;rw[h3] at h2
  simp only[bne_iff_ne,ne_eq];omega
theorem rawB_rat (q:Rat):rawB (decide (q.num<0)) (nb q.num.natAbs) (nb q.den)=true:=by
 have h1:=nb_pos q.den_pos;have h2:=q.reduced
 simp only[rawB,rightB_nb,bv_nb,Bool.true_and,Bool.and_eq_true,decide_eq_true_eq,Bool.not_eq_true',Bool.and_eq_false_iff,decide_eq_false_iff_not]
 refine⟨⟨by omega,?_⟩,h2⟩
 rcases Classical.em ((nb q.num.natAbs).size=0) with h|h
 ·right;rw[nb_size_zero] at h;omega
 ·exact .inl h
theorem rvalue2_any (q:Rat) (w:World) (hq:Sz q 134217728):
  Calls Tryz.prog 62 #[rv q] w fun e w'=>e= .returned (rv q)∧Below w.heap.size w w':=by
 have hr:=Lib.hid (rawB_rat q);unfold rv
 go_enter Tryz.func62,Tryz.ntmps62
 have⟨bA,bR,ag⟩:=opn2 w [.bool (decide (q.num<0)),.string (nb q.num.natAbs),.string (nb q.den)] [.bool false,.string ⟨#[]⟩,.string ⟨#[]⟩] 33 33
 go_upto_region 1 with fail
 generalize (w.alloc (.cells #[.bool (decide (q.num<0)),.string (nb q.num.natAbs),.string (nb q.den)] 33)).alloc (.cells #[.bool false,.string ⟨#[]⟩,.string ⟨#[]⟩] 33)=W0 at*;generalize hgR:w.heap.size+1=gR at*;obtain⟨gA,hgA⟩: ∃g,g=w.heap.size:=⟨_,rfl⟩;rw[←hgA] at bA
 simp only[←hgA]
 have ngAgR:gA≠gR:=by omega
 have kgA:w.heap.size≤gA:=by omega
 have kgR:w.heap.size≤gR:=by omega
 clear hgA hgR;have⟨cgA0,fA0,cA1,fA1,cgA2,fA2⟩:=bA.all3
 go_wp2_with fail
 clear cgA0 fA0 cA1 fA1 cgA2 fA2
 with_reducible refine(rright2_any (decide (q.num<0)) (nb q.num.natAbs) (nb q.den) _ hq.1 hq.2).mono ?_
 rw[hr.out];rintro e wZ ⟨rfl,am⟩;replace ag:=ag.tr am;replace bA:=bA.below am;replace bR:=bR.below am;clear am;have⟨cgA0,fA0,cA1,fA1,cgA2,fA2⟩:=bA.all3;have⟨cgR0,fgR0,cgR1,fgR1,cgR2,fgR2⟩:=bR.all3
 go_wp2_with fail
 refine bodyPost_ret (v:=.agg #[.bool (decide (q.num<0)),.string (nb q.num.natAbs),.string (nb q.den)]) (by simp[results,Tryz.results62,go_sem,cgR0,cgR1,cgR2]) rfl ⟨rfl,(((ag.setCell kgR _).setCell kgR _).setCell kgR _)⟩
theorem rof2_any (n:Int) (w:World) (h0: -9223372036854775808≤n) (h1:n≤9223372036854775807):
  Calls Tryz.prog 18 #[.int .i64 n] w fun e w'=>e= .returned (rv (n:Rat))∧Below w.heap.size w w':=by
 rcases Int.lt_or_le n 0 with hn|hn
 ·have e1:=Lib.hid (show(nb (-(n+1)).toNat).size≤8 from nbs (by omega) (by decide))
  have e2:=Lib.hid (show(-(n+1)).toNat+1=n.natAbs by omega)
  have e3:=Lib.hid (show true=decide ((n:Rat).num<0) by rw[Rat.num_intCast,decide_eq_true hn])
  have s1:=e1.out
  have w1:IntKind.i64.wrap (n+1)=n+1:=by rw[IntKind.wrap_i64];omega
  go_enter Tryz.func18,Tryz.ntmps18
  have⟨bR,ag⟩:=opn1 w [.bool false,.string ⟨#[]⟩,.string ⟨#[]⟩] 33
  go_upto_region 1 with fail
  generalize w.alloc (.cells #[.bool false,.string ⟨#[]⟩,.string ⟨#[]⟩] 33)=W0 at*;obtain⟨gR,hgR⟩: ∃g,g=w.heap.size:=⟨_,rfl⟩;rw[←hgR] at bR
  simp only[←hgR]
  have kgR:w.heap.size≤gR:=by omega
  clear hgR
  go_wp2_with fail
  with_reducible refine(ofn_any (-(n+1)) _ (by omega) (by omega)).mono ?_
  rintro e wZ ⟨rfl,am⟩;replace ag:=ag.tr am;replace bR:=bR.below am;clear am
  go_wp2_with fail
  with_reducible refine(ofn_any 1 _ (by omega) (by omega)).mono ?_
  rw[show(1:Int).toNat=1 from rfl];rintro e wZ ⟨rfl,am⟩;replace ag:=ag.tr am;replace bR:=bR.below am;clear am
  go_wp2_with fail
  with_reducible refine(add_any (nb (-(n+1)).toNat) (nb 1) _ (by omega) (nbs (by decide) (by decide))).mono ?_
  rw[bv_nb,bv_nb,e2.out];rintro e wZ ⟨rfl,am⟩;replace ag:=ag.tr am;replace bR:=bR.below am;clear am
  go_wp2_with fail
  with_reducible refine(ofn_any 1 _ (by omega) (by omega)).mono ?_
  rw[show(1:Int).toNat=1 from rfl];rintro e wZ ⟨rfl,am⟩;replace ag:=ag.tr am;replace bR:=bR.below am;clear am;have⟨cgR0,fgR0,cgR1,fgR1,cgR2,fgR2⟩:=bR.all3
  go_wp2_with fail
  refine bodyPost_ret (v:=.agg #[.bool true,.string (nb n.natAbs),.string (nb 1)]) (by simp[results,Tryz.results18,go_sem,cgR0,cgR1,cgR2]) rfl ⟨congrArg Ending.returned (ret_rv e3.out rfl rfl),(((ag.setCell kgR _).setCell kgR _).setCell kgR _)⟩
 ·have e2:=Lib.hid (show n.toNat=(n:Rat).num.natAbs by rw[Rat.num_intCast];omega)
  have e3:=Lib.hid (show false=decide ((n:Rat).num<0) by rw[Rat.num_intCast,decide_eq_false (by omega)])
  go_enter Tryz.func18,Tryz.ntmps18
  have⟨bR,ag⟩:=opn1 w [.bool false,.string ⟨#[]⟩,.string ⟨#[]⟩] 33
  go_upto_region 1 with fail
  generalize w.alloc (.cells #[.bool false,.string ⟨#[]⟩,.string ⟨#[]⟩] 33)=W0 at*;obtain⟨gR,hgR⟩: ∃g,g=w.heap.size:=⟨_,rfl⟩;rw[←hgR] at bR
  simp only[←hgR]
  have kgR:w.heap.size≤gR:=by omega
  clear hgR
  go_wp2_with fail
  with_reducible refine(ofn_any n _ (by omega) (by omega)).mono ?_
  rintro e wZ ⟨rfl,am⟩;replace ag:=ag.tr am;replace bR:=bR.below am;clear am
  go_wp2_with fail
  with_reducible refine(ofn_any 1 _ (by omega) (by omega)).mono ?_
  rw[show(1:Int).toNat=1 from rfl];rintro e wZ ⟨rfl,am⟩;replace ag:=ag.tr am;replace bR:=bR.below am;clear am;have⟨cgR0,fgR0,cgR1,fgR1,cgR2,fgR2⟩:=bR.all3
  go_wp2_with fail
  refine bodyPost_ret (v:=.agg #[.bool false,.string (nb n.toNat),.string (nb 1)]) (by simp[results,Tryz.results18,go_sem,cgR0,cgR1,cgR2]) rfl ⟨congrArg Ending.returned (ret_rv e3.out e2.out rfl),(((ag.setCell kgR _).setCell kgR _).setCell kgR _)⟩
theorem rsign2_any (q:Rat) (w:World) (hq:Sz q 134217728):
  Calls Tryz.prog 35 #[rv q] w fun e w'=>e= .returned (.int .i64 (sgn q))∧Below w.heap.size w w':=by
 by_cases hz:q.num.natAbs=0
 ·have he:(nb q.num.natAbs).toList= []:=by rw[hz];exact nb0_nil
  have hs:=Lib.hid (show(0:Int)=sgn q by unfold sgn;rw[if_pos hz])
  clear hz;unfold rv
  go_enter Tryz.func35,Tryz.ntmps35
  have⟨bA,ag⟩:=opn1 w [.bool (decide (q.num<0)),.string (nb q.num.natAbs),.string (nb q.den)] 33
  go_upto_region 1 with fail
  generalize w.alloc (.cells #[.bool (decide (q.num<0)),.string (nb q.num.natAbs),.string (nb q.den)] 33)=W0 at*;obtain⟨gA,hgA⟩: ∃g,g=w.heap.size:=⟨_,rfl⟩;rw[←hgA] at bA
  simp only[←hgA]
  have kgA:w.heap.size≤gA:=by omega
  clear hgA;have⟨cgA0,fA0,cA1,fA1,cgA2,fA2⟩:=bA.all3
  go_wp2_with fail
  clear cgA0 fA0 cA1 fA1 cgA2 fA2
  with_reducible refine(rvalue2_any q _ hq).mono ?_
  rintro e wZ ⟨rfl,am⟩;replace ag:=ag.tr am;replace bA:=bA.below am;clear am;have⟨cgA0,fA0,cA1,fA1,cgA2,fA2⟩:=bA.all3;unfold rv;replace ag:=((ag.setCell (p:=⟨gA,0,none⟩) kgA (.bool (decide (q.num<0)))).setCell (p:=⟨gA,1,none⟩) kgA (.string (nb q.num.natAbs))).setCell (p:=⟨gA,2,none⟩) kgA (.string (nb q.den));replace bA:=bA.put3 (.bool (decide (q.num<0))) (.string (nb q.num.natAbs)) (.string (nb q.den))
  go_upto_region 2 with fail
  clear cgA0 fA0 cA1 fA1 cgA2 fA2;generalize ((wZ.setCell ⟨gA,0,none⟩ (.bool (decide (q.num<0)))).setCell ⟨gA,1,none⟩ (.string (nb q.num.natAbs))).setCell ⟨gA,2,none⟩ (.string (nb q.den))=WS at*;have⟨cgA0,fA0,cA1,fA1,cgA2,fA2⟩:=bA.all3
  go_wp2_with fail
  go_ret
  exact⟨ret_int hs.out,ag⟩
 ·have hne:=nb_ne hz
  have hie:=nb_isE hz
  by_cases hn:q.num<0
  ·have Hd:=Lib.hid (show decide (q.num<0)=true from decide_eq_true hn)
   have hs:=Lib.hid (show(-1:Int)=sgn q by unfold sgn;rw[if_neg hz,if_pos hn])
   clear hz hn;unfold rv
   go_enter Tryz.func35,Tryz.ntmps35
   have⟨bA,ag⟩:=opn1 w [.bool (decide (q.num<0)),.string (nb q.num.natAbs),.string (nb q.den)] 33
   go_upto_region 1 with fail
   generalize w.alloc (.cells #[.bool (decide (q.num<0)),.string (nb q.num.natAbs),.string (nb q.den)] 33)=W0 at*;obtain⟨gA,hgA⟩: ∃g,g=w.heap.size:=⟨_,rfl⟩;rw[←hgA] at bA
   simp only[←hgA]
   have kgA:w.heap.size≤gA:=by omega
   clear hgA;have⟨cgA0,fA0,cA1,fA1,cgA2,fA2⟩:=bA.all3
   go_wp2_with fail
   clear cgA0 fA0 cA1 fA1 cgA2 fA2
   with_reducible refine(rvalue2_any q _ hq).mono ?_
   rintro e wZ ⟨rfl,am⟩;replace ag:=ag.tr am;replace bA:=bA.below am;clear am;have⟨cgA0,fA0,cA1,fA1,cgA2,fA2⟩:=bA.all3;unfold rv;replace ag:=((ag.setCell (p:=⟨gA,0,none⟩) kgA (.bool (decide (q.num<0)))).setCell (p:=⟨gA,1,none⟩) kgA (.string (nb q.num.natAbs))).setCell (p:=⟨gA,2,none⟩) kgA (.string (nb q.den));replace bA:=bA.put3 (.bool (decide (q.num<0))) (.string (nb q.num.natAbs)) (.string (nb q.den))
   go_upto_region 2 with fail
   clear cgA0 fA0 cA1 fA1 cgA2 fA2;generalize ((wZ.setCell ⟨gA,0,none⟩ (.bool (decide (q.num<0)))).setCell ⟨gA,1,none⟩ (.string (nb q.num.natAbs))).setCell ⟨gA,2,none⟩ (.string (nb q.den))=WS at*;have hd:=Hd.out;have⟨cgA0,fA0,cA1,fA1,cgA2,fA2⟩:=bA.all3
   go_wp2_with fail
   go_ret
   exact⟨ret_int hs.out,ag⟩
  ·have Hd:=Lib.hid (show decide (q.num<0)=false from decide_eq_false hn)
   have hs:=Lib.hid (show(1:Int)=sgn q by unfold sgn;rw[if_neg hz,if_neg hn])
   clear hz hn;unfold rv
   go_enter Tryz.func35,Tryz.ntmps35
   have⟨bA,ag⟩:=opn1 w [.bool (decide (q.num<0)),.string (nb q.num.natAbs),.string (nb q.den)] 33
   go_upto_region 1 with fail
   generalize w.alloc (.cells #[.bool (decide (q.num<0)),.string (nb q.num.natAbs),.string (nb q.den)] 33)=W0 at*;obtain⟨gA,hgA⟩: ∃g,g=w.heap.size:=⟨_,rfl⟩;rw[←hgA] at bA
   simp only[←hgA]
   have kgA:w.heap.size≤gA:=by omega
   clear hgA;have⟨cgA0,fA0,cA1,fA1,cgA2,fA2⟩:=bA.all3
   go_wp2_with fail
   clear cgA0 fA0 cA1 fA1 cgA2 fA2
   with_reducible refine(rvalue2_any q _ hq).mono ?_
   rintro e wZ ⟨rfl,am⟩;replace ag:=ag.tr am;replace bA:=bA.below am;clear am;have⟨cgA0,fA0,cA1,fA1,cgA2,fA2⟩:=bA.all3;unfold rv;replace ag:=((ag.setCell (p:=⟨gA,0,none⟩) kgA (.bool (decide (q.num<0)))).setCell (p:=⟨gA,1,none⟩) kgA (.string (nb q.num.natAbs))).setCell (p:=⟨gA,2,none⟩) kgA (.string (nb q.den));replace bA:=bA.put3 (.bool (decide (q.num<0))) (.string (nb q.num.natAbs)) (.string (nb q.den))
   go_upto_region 2 with fail
   clear cgA0 fA0 cA1 fA1 cgA2 fA2;generalize ((wZ.setCell ⟨gA,0,none⟩ (.bool (decide (q.num<0)))).setCell ⟨gA,1,none⟩ (.string (nb q.num.natAbs))).setCell ⟨gA,2,none⟩ (.string (nb q.den))=WS at*;have hd:=Hd.out;have⟨cgA0,fA0,cA1,fA1,cgA2,fA2⟩:=bA.all3
   go_wp2_with fail
   go_ret
   exact⟨ret_int hs.out,ag⟩
end Go.Proofs.YtinmmkcjjlconaaGreat
namespace Go.Proofs.YtinmmkcjjlconaaGreat
open Go.RowKit W
open Pl (bval enc bv nb bv_nb nb_size_le nb_size_zero nb_size_mono nb_bv_size bv_lt cmpN nb_inj)
open Rq
abbrev RC (w:World) (g:Nat) (q:Rat):Prop:=C3 w g (.bool (decide (q.num<0))) (.string (nb q.num.natAbs)) (.string (nb q.den))
theorem opnR2 (w:World) (p q:Rat) (t:TypeId): ∃W gA gB gR,Hid (((w.alloc (.cells #[.bool (decide (p.num<0)),.string (nb p.num.natAbs),.string (nb p.den)] t)).alloc (.cells #[.bool (decide (q.num<0)),.string (nb q.num.natAbs),.string (nb q.den)] t)).alloc (.cells #[.bool false,.string ⟨#[]⟩,.string ⟨#[]⟩] t)=W∧w.heap.size+1+1=gR∧w.heap.size+1=gB∧w.heap.size=gA)∧RC W gA p∧RC W gB q∧Rx W gR [.bool false,.string ⟨#[]⟩,.string ⟨#[]⟩]∧¬gA=gR∧¬gB=gR∧w.heap.size≤gR∧Below w.heap.size w W:=
 ⟨_,_,_,_,Lib.hid ⟨rfl,rfl,rfl,rfl⟩,(((Rx.new w _ rfl [.bool (decide (p.num<0)),.string (nb p.num.natAbs),.string (nb p.den)] t).alloc _).alloc _).c3,((Rx.new _ _ (by simp) [.bool (decide (q.num<0)),.string (nb q.num.natAbs),.string (nb q.den)] t).alloc _).c3,Rx.new _ _ (by simp) [.bool false,.string ⟨#[]⟩,.string ⟨#[]⟩] t,by omega,by omega,by omega,(((Below.refl w.heap.size w).alloc (Nat.le_refl _) _).alloc (by simp) _).alloc (by simp;omega) _⟩
theorem offB{g:Nat}{w W0 W:World}{B:Nat}(h:Below B w W0)(ho:Off (fun b=>b=g) W0 W)(hg:B≤g)(hB:B≤W0.heap.size):Below B w W:=h.trans (ho.below (fun b hb e=>by omega) hB)
theorem retc3 {fn:Func} {tmps:Array Value} {w:World} {a g:Nat} {x y z:Value} (hf:fn.results= #[.cell a 33]) (ha:tmps[a]?.getD undef= .pointer (some ⟨g,0,none⟩)) (h:C3 w g x y z):(results fn tmps).run Tryz.prog w= .ok (.agg #[x,y,z]) w:=by
 obtain⟨h0,_,h1,_,h2,_⟩:=h
 simp[results,hf,ha,go_sem,h0,h1,h2]
theorem retc4 {fn:Func} {tmps:Array Value} {w:World} {a g b:Nat} {x y z v:Value} (hf:fn.results= #[.cell a 33,.tmp b]) (ha:tmps[a]?.getD undef= .pointer (some ⟨g,0,none⟩)) (hb:tmps[b]?.getD undef=v) (h:C3 w g x y z):(results fn tmps).run Tryz.prog w= .ok (.tuple #[.agg #[x,y,z],v]) w:=by
 obtain⟨h0,_,h1,_,h2,_⟩:=h
 simp[results,hf,ha,hb,go_sem,h0,h1,h2]
theorem opnC (w:World) (x x':Bool) (y z y' z':ByteArray) (t:TypeId): ∃W gA gB,Hid ((w.alloc (.cells #[.bool x,.string y,.string z] t)).alloc (.cells #[.bool x',.string y',.string z'] t)=W∧w.heap.size+1=gB∧w.heap.size=gA)∧C3 W gA (.bool x) (.string y) (.string z)∧C3 W gB (.bool x') (.string y') (.string z')∧Below w.heap.size w W:=
 ⟨_,_,_,Lib.hid ⟨rfl,rfl,rfl⟩,((Rx.new w _ rfl [.bool x,.string y,.string z] t).alloc _).c3,(Rx.new _ _ (by simp) [.bool x',.string y',.string z'] t).c3,((Below.refl w.heap.size w).alloc (Nat.le_refl _) _).alloc (by simp) _⟩
theorem opnR1 (w:World) (q:Rat) (t:TypeId): ∃W gA gR,Hid ((w.alloc (.cells #[.bool (decide (q.num<0)),.string (nb q.num.natAbs),.string (nb q.den)] t)).alloc (.cells #[.bool false,.string ⟨#[]⟩,.string ⟨#[]⟩] t)=W∧w.heap.size+1=gR∧w.heap.size=gA)∧Rx W gA [.bool (decide (q.num<0)),.string (nb q.num.natAbs),.string (nb q.den)]∧Rx W gR [.bool false,.string ⟨#[]⟩,.string ⟨#[]⟩]∧¬gA=gR∧w.heap.size≤gA∧w.heap.size≤gR∧Below w.heap.size w W:=
 ⟨_,_,_,Lib.hid ⟨rfl,rfl,rfl⟩,(Rx.new w _ rfl [.bool (decide (q.num<0)),.string (nb q.num.natAbs),.string (nb q.den)] t).alloc _,Rx.new _ _ (by simp) [.bool false,.string ⟨#[]⟩,.string ⟨#[]⟩] t,by omega,Nat.le_refl _,by omega,((Below.refl w.heap.size w).alloc (Nat.le_refl _) _).alloc (by simp) _⟩
end Go.Proofs.YtinmmkcjjlconaaGreat
namespace Go.Proofs.YtinmmkcjjlconaaGreat
open Go.RowKit
section
variable {F:Fence} {n:Nat} {P:Program} {ops:Array Oper} {Q:Exit→Act→World→Prop} {md:Region.Mode} {S:World→Prop}
theorem wpOpIn_through {j:Nat} {oi oj:Oper} {v:Value} {Y:Act→Prop} (hro:F.round=none) (hj:ops[j]? =some oj) (hap:oi.apart ops oj=true) (hsj: ∀cs b,oj.op≠ .select cs b)
  (hQ: ∀c a w,Q (.panic c) (a.put oi.dst v) w→Q (.panic c) a w) (hput: ∀a u,Y a→Y (a.put oj.dst u)) (hdef: ∀(a:Act) d,Y a→Y {a with defers:=d::a.defers})
  {K:Act→World→Prop} {a:Act} {w:World} (hy:Y a) (h:wpOpIn F n P ops Q j K (a.put oi.dst v) w):
  wpOpIn F n P ops Q j (fun a' w'=>Y a'∧K (a'.put oi.dst v) w') a w:=by
 obtain⟨h1,h2,_⟩:=Oper.apart_spec hap;unfold wpOpIn at*
 simp only[hj] at*
 rw[wanted_put oj a oi.dst v h1,about_put oj w a oi.dst v h1] at h
 split
 case isFalse hw=>
  simp only[hw] at h
  exact⟨h.1,hput a _ hy,by rw[←Act.put_comm a v undef h2];exact h.2⟩
 case isTrue hw=>
  simp only[hw,if_true] at h
  unfold Oper.wpIn at*;rw[about_put oj w a oi.dst v h1,hro,Oper.semAt_none,execOp_put oj hsj a oi.dst v h1] at h;rw[hro,Oper.semAt_none]
  refine⟨h.1,?_⟩
  obtain⟨_,h⟩:=h;generalize (execOp a.eval oj).run P w=r at*
  have back: ∀ {u:Value} {w'':World},K ((a.put oi.dst v).put oj.dst u) w''→Y (a.put oj.dst u)∧K ((a.put oj.dst u).put oi.dst v) w'':=fun {u w''} hk=>⟨hput a u hy,by rw[←Act.put_comm a v u h2];exact hk⟩
  have post: ∀(e:Ending) (w'':World),(match e,w'' with
    | .returned u,w''=>K ((a.put oi.dst v).put oj.dst u) w''
    | .panicked c,w''=>Q (.panic c) (a.put oi.dst v) w''
    | .outgrown,_=>LetsOut Q)→(match e,w'' with
    | .returned u,w''=>Y (a.put oj.dst u)∧K ((a.put oj.dst u).put oi.dst v) w''
    | .panicked c,w''=>Q (.panic c) a w''
    | .outgrown,_=>LetsOut Q):=fun e w'' he=>by
   cases e with
   |returned u=>exact back he
   |panicked c=>exact hQ _ _ _ he
   |outgrown=>exact he
  cases r with
  |ok x w'=>
   cases x<;>simp only[Oper.uponIn] at h⊢
   case value u=>exact back h
   case skip=>exact back h
   case defer d=>exact⟨hput _ _ (hdef a d hy),by rw[←Act.put_comm _ v undef h2,←Act.put_defers];exact h⟩
   case enter f args=>exact⟨h.1,CallsIn.mono h.2 fun e w'' he=>post e w'' he⟩
   case row r args=>exact⟨h.1,RowsIn.mono h.2 fun u w'' he=>back he⟩
   case round l f tmps assign body=>exact⟨h.1,RoundIn.mono h.2 fun e w'' he=>post e w'' he⟩
  |halt x w'=>
   cases x<;>simp only[Oper.uponIn] at h⊢
   case panic u=>exact hQ _ _ _ h
def GivesF(P:Program)(ops:Array Oper)(S:World→Prop)(o:Oper)(v:Value)(a:Act):Prop:=YieldsIf P ops S o v a∧∀w,o.about P w a.eval=none
def wpAnyI (F:Fence) (n:Nat) (P:Program) (md:Region.Mode) (ops:Array Oper) (Q:Exit→Act→World→Prop) (S:World→Prop):Nat→Array Bool→Act→World→Prop
  |0,listed,a,w=>Region.ready md ops listed= []∧Q .normal a w
  | fuel+1,listed,a,w=>(Region.ready md ops listed= []→Q .normal a w)∧
    ∀i∈Region.ready md ops listed,wpOpIn F n P ops Q i (fun a' w'=>S w'∧wpAnyI F n P md ops Q S fuel (listed.setIfInBounds i true) a' w') a w
theorem wpAnyIn_of_I: ∀(fuel:Nat) (listed:Array Bool) (a:Act) (w:World),wpAnyI F n P md ops Q S fuel listed a w→wpAnyIn F n P md ops Q fuel listed a w
 |0,_,_,_,h=>h
 |fuel+1,_,_,_,h=>⟨h.1,fun i hi=>wpOpIn_mono (fun a' w' h'=>wpAnyIn_of_I fuel _ a' w' h'.2) (h.2 i hi)⟩
theorem GivesF.now {i:Nat} {o:Oper} {v:Value} {a:Act} (hro:F.round=none) (hi:ops[i]? =some o) (hy:GivesF P ops S o v a) {K:Act→World→Prop} {w:World} (hS:S w) (h:K (a.put o.dst v) w):wpOpIn F n P ops Q i K a w:=by
 unfold wpOpIn
 simp only[hi]
 have hab: ∀f,o.about P w a.eval=some f→F.fn f:=fun f hf=>by rw[hy.2 w] at hf;cases hf
 rcases hy.1 with⟨hw,hv⟩|⟨hw,rfl⟩
 ·simp only[hw,if_true,Oper.wpIn,hro,Oper.semAt_none,hv w hS,Oper.uponIn];exact⟨hab,h⟩
 ·simp only[hw,Bool.false_eq_true,if_false];exact⟨hab,h⟩
theorem wpAnyI_first {i:Nat} {oi:Oper} {v:Value} (hro:F.round=none) (hi:ops[i]? =some oi) (hsel: ∀(j:Nat) (o:Oper) cs b,ops[j]? =some o→o.op≠ .select cs b)
    (hQ: ∀c a w,Q (.panic c) (a.put oi.dst v) w→Q (.panic c) a w): ∀(fuel:Nat) (listed:Array Bool) (a:Act) (w:World),
      (∀j oj,ops[j]? =some oj→j≠i→listed.getD j true=false→(∀e∈oj.after,Region.binds md e=true→e.on≠i)→oi.apart ops oj=true)→
      i∈Region.ready md ops listed→GivesF P ops S oi v a→S w→
      wpAnyI F n P md ops Q S fuel (listed.setIfInBounds i true) (a.put oi.dst v) w→wpAnyI F n P md ops Q S (fuel+1) listed a w:=by
  intro fuel
  induction fuel with
  | zero=>
    intro listed a w _ hr hy hS H
    refine⟨fun h=>(by rw[h] at hr;cases hr),fun j hj=>?_⟩
    by_cases hji:j=i
    ·subst hji;exact hy.now hro hi hS ⟨hS,H⟩
    · have:=ready_mono hj hji
      rw[H.1] at this
      cases this
  | succ fuel ih=>
    intro listed a w hfree hr hy hS H
    refine⟨fun h=>(by rw[h] at hr;cases hr),fun j hj=>?_⟩
    by_cases hji:j=i
    ·subst hji;exact hy.now hro hi hS ⟨hS,H⟩
    have h1:=H.2 j (ready_mono hj hji);obtain⟨hjun,oj,hoj,hall⟩:=mem_ready.1 hj
    have hnot: ∀e∈oj.after,Region.binds md e=true→e.on≠i:=fun e he hb heq=>by
      have h1:=hall e he hb;have h0:=(mem_ready.1 hr).1;rw[heq] at h1
      rcases Nat.lt_or_ge i listed.size with h'|h'
      ·simp[h'] at h0 h1;rw[h0] at h1;cases h1
      ·simp[Array.getElem?_eq_none h'] at h1
    have hap:=hfree j oj hoj hji hjun hnot;obtain⟨_,_,h3⟩:=Oper.apart_spec hap;have hsi:=fun cs b=>hsel i oi cs b hi;have h2:=wpOpIn_through (Y:=GivesF P ops S oi v) hro hoj hap (fun cs b=>hsel j oj cs b hoj) hQ
      (fun a u hY=>⟨hY.1.of_same (execOp_put oi hsi a oj.dst u h3) (wanted_put oi a oj.dst u h3),fun w=>by rw[about_put oi w a oj.dst u h3];exact hY.2 w⟩)
      (fun a d hY=>⟨hY.1.of_same rfl rfl,hY.2⟩) hy h1
    have hfree': ∀k ok,ops[k]? =some ok→k≠i→(listed.setIfInBounds j true).getD k true=false→
        (∀e∈ok.after,Region.binds md e=true→e.on≠i)→oi.apart ops ok=true:=fun k ok hk hki hun hno=>by
      refine hfree k ok hk hki ?_ hno
      by_cases hjk:j=k
      ·subst hjk;exact hjun
      ·rw[getD_set_ne true hjk] at hun;exact hun
    refine wpOpIn_mono (fun a' w' h4=>⟨h4.2.1,ih (listed.setIfInBounds j true) a' w' hfree' (ready_mono hr (Ne.symm hji)) h4.1 h4.2.1 ?_⟩) h2
    rw[Array.setIfInBounds_comm _ _ hji]
    exact h4.2.2
variable {oi:Oper} {v:Value} {fuel:Nat} {listed:Array Bool} {a:Act} {w:World}
theorem tkI (i:Nat) (hro:F.round=none) (hP:Pan Q) (hk:(Region.noSelect ops&&Region.free md ops listed i&&(Region.ready md ops listed).contains i)=true) (hi:ops[i]? =some oi)
  (hw:Region.wanted oi (yielded ops a.tmps)=true) (hab: ∀w,oi.about P w a.eval=none) (hy: ∀w,S w→(execOp a.eval oi).run P w= .ok (.value v) w) (hS:S w)
  (h:wpAnyI F n P md ops Q S fuel (listed.setIfInBounds i true) (a.put oi.dst v) w):wpAnyI F n P md ops Q S (fuel+1) listed a w:=by
 simp only[Bool.and_eq_true] at hk
 exact wpAnyI_first hro hi (Region.noSelect_spec hk.1.1) (fun c a w=>hP _ _ c a w) fuel listed a w (Region.free_spec hi hk.1.2) (by simpa using hk.2) ⟨.inl ⟨hw,hy⟩,hab⟩ hS h
theorem stI (i:Nat) (hk:Region.ready md ops listed= [i]) (hi:ops[i]? =some oi)
  (h: ∀K:Act→World→Prop,Shut (∀a w,S w→(S w→wpAnyI F n P md ops Q S fuel (listed.setIfInBounds i true) a w)→K a w)→if Region.wanted oi (yielded ops a.tmps)=true then Oper.wpIn F n P oi a w K Q else(∀f,oi.about P w a.eval=some f→F.fn f)∧K (a.put oi.dst undef) w):
  wpAnyI F n P md ops Q S (fuel+1) listed a w:=
 ⟨fun h0=>(by rw[h0] at hk;cases hk),fun j hj=>by
  rw[hk] at hj;obtain rfl:=List.mem_singleton.1 hj
  exact wpOpIn_step hi (fun K' hK=>h K' (fun a w hS hW=>hK a w ⟨hS,hW hS⟩))⟩
theorem doneI {listed:Array Bool} {a:Act} {w:World} (hr:Region.ready md ops listed= []) (h:Q .normal a w): ∀fuel,wpAnyI F n P md ops Q S fuel listed a w
 |0=>⟨hr,h⟩
 |_+1=>⟨fun _=>h,by rw[hr];simp⟩
theorem heldI {id:Nat} (hm:P.follows .mixedOrders=true)
  (h:Pan Q→∀W,Hid (W=w.drew)→S W∧(S W→wpAnyI F n P .any ops Q S ops.size (Array.replicate ops.size false) a W)) (hP:Pan Q):(Code.region id ops true).wpIn F n P Q a w:=
 wpIn_region_any hm (wpAnyIn_of_I _ _ _ _ ((h hP w.drew (Lib.hid rfl)).2 (h hP w.drew (Lib.hid rfl)).1))
end
section
variable {P:Program} {ops:Array Oper} {Q:Exit→Act→World→Prop}
def backB(ops:Array Oper):Bool:=(List.range ops.size).all fun i=>((ops[i]?).map fun o=>o.after.all fun e=>!Region.binds .any e||decide (e.on<i)).getD true
theorem back_spec (h:backB ops=true) {i:Nat} {o:Oper} (ho:ops[i]? =some o): ∀e∈o.after,Region.binds .any e=true→e.on<i:=by
 intro e he hb
 have hi:i<ops.size:=(Array.getElem?_eq_some_iff.1 ho).1;unfold backB at h;have h1:=List.all_eq_true.1 h i (List.mem_range.2 hi);rw[ho] at h1
 simp only[Option.map_some,Option.getD_some] at h1
 have h2:=Array.all_eq_true'.1 h1 e he
 simp only[Bool.or_eq_true,Bool.not_eq_true',decide_eq_true_eq] at h2
 rcases h2 with h2|h2
 ·rw[hb] at h2;cases h2
 ·exact h2
def todo (L:Nat→Bool):Nat→Nat
  |0=>0
  |k+1=>todo L k+if L k then 0 else 1
theorem todo_zero {L:Nat→Bool}: ∀ {k:Nat},todo L k=0→∀i,i<k→L i=true:=by
 intro k
 induction k with
 |zero=>intro _ i hi;omega
 | succ k ih=>
  intro h i hi
  unfold todo at h
  by_cases e:i=k
  ·subst e
   cases hL:L i with
   |true=>rfl
   |false=>rw[hL] at h;simp at h
  ·exact ih (by omega) i (by omega)
theorem todo_set {L:Nat→Bool} {i:Nat} (hi:L i=false): ∀ {k:Nat},i<k→todo (fun j=>if j=i then true else L j) k+1=todo L k:=by
 intro k
 have same: ∀k,k≤i→todo (fun j=>if j=i then true else L j) k=todo L k:=by
  intro k
  induction k with
  |zero=>intro _;rfl
  |succ k ih=>
   intro h
   unfold todo
   rw[ih (by omega),if_neg (show ¬k=i by omega)]
 induction k with
 |zero=>intro h;omega
 | succ k ih=>
  intro h
  unfold todo
  by_cases e:k=i
  ·subst e
   rw[same k (Nat.le_refl _),if_pos rfl,hi]
   simp
  ·rw[if_neg e]
   have:=ih (by omega)
   omega
theorem todo_all (k:Nat):todo (fun _=>false) k=k:=by
 induction k with
 |zero=>rfl
 |succ k ih=>unfold todo;rw[ih];simp
theorem wp_region_inv {id:Nat} {a:Act} {w:World} (hm:P.follows .mixedOrders=true) (hb:backB ops=true) (Inv:(Nat→Bool)→Act→World→Prop) (h0:Inv (fun _=>false) a w.drew)
    (step: ∀(i:Nat) (o:Oper) (L:Nat→Bool) (a:Act) (w:World) (K:Act→World→Prop),ops[i]? =some o→L i=false→(∀e∈o.after,Region.binds .any e=true→L e.on=true)→Inv L a w→
      (∀a' w',Inv (fun j=>if j=i then true else L j) a' w'→K a' w')→if Region.wanted o (yielded ops a.tmps)=true then o.wp P a w K Q else K (a.put o.dst undef) w)
    (fin: ∀(L:Nat→Bool) (a:Act) (w:World),(∀i,i<ops.size→L i=true)→Inv L a w→Q .normal a w):(Code.region id ops true).wp P Q a w:=by
  refine wp_region_any hm ?_
  have key: ∀(fuel:Nat) (listed:Array Bool) (a:Act) (w:World),listed.size=ops.size→todo (fun j=>listed.getD j false) ops.size=fuel→Inv (fun j=>listed.getD j false) a w→wpAny P .any ops Q fuel listed a w:=by
    have hnone: ∀(listed:Array Bool),listed.size=ops.size→Region.ready .any ops listed= []→∀i,i<ops.size→listed.getD i false=true:=by
      intro listed hs hr i
      induction i using Nat.strongRecOn with
      | _ i ih=>
        intro hi
        apply Classical.byContradiction
        intro hne
        have hf:listed.getD i true=false:=by
          have:i<listed.size:=by omega
          simp only[Array.getD_eq_getD_getElem?,Array.getElem?_eq_getElem this,Option.getD_some] at hne⊢
          simpa using hne
        have hmem:i∈Region.ready .any ops listed:=mem_ready.2 ⟨hf,ops[i],Array.getElem?_eq_getElem hi,fun e he hbd=>ih e.on (back_spec hb (Array.getElem?_eq_getElem hi) e he hbd) (by have:=back_spec hb (Array.getElem?_eq_getElem hi) e he hbd;omega)⟩
        rw[hr] at hmem
        cases hmem
    intro fuel
    induction fuel with
    | zero=>
      intro listed a w hs ht hI
      have hall:=todo_zero ht
      refine⟨?_,fin _ a w hall hI⟩
      apply Classical.byContradiction
      intro hne
      obtain⟨i,hi⟩:=List.exists_mem_of_ne_nil _ hne;obtain⟨h1,o,ho,_⟩:=mem_ready.1 hi;have hlt:i<ops.size:=(Array.getElem?_eq_some_iff.1 ho).1;have h2:=hall i hlt
      have:i<listed.size:=by omega
      simp only[Array.getD_eq_getD_getElem?,Array.getElem?_eq_getElem this,Option.getD_some] at h1 h2
      rw[h1] at h2
      cases h2
    | succ fuel ih=>
      intro listed a w hs ht hI
      refine⟨fun hr=>fin _ a w (hnone listed hs hr) hI,fun i hi=>?_⟩
      obtain⟨h1,o,ho,hdep⟩:=mem_ready.1 hi;have hlt:i<ops.size:=(Array.getElem?_eq_some_iff.1 ho).1
      have hl:i<listed.size:=by omega
      have hLf:listed.getD i false=false:=by
        simp only[Array.getD_eq_getD_getElem?,Array.getElem?_eq_getElem hl,Option.getD_some] at h1⊢
        exact h1
      have heq:(fun j=>(listed.setIfInBounds i true).getD j false)=(fun j=>if j=i then true else listed.getD j false):=by
        funext j
        by_cases e:j=i
        · subst e
          rw[if_pos rfl]
          simp[Array.getD_eq_getD_getElem?,hl]
        · rw[if_neg e]
          simp only[Array.getD_eq_getD_getElem?]
          rw[Array.getElem?_setIfInBounds_ne (Ne.symm e)]
      have hst:=step i o (fun j=>listed.getD j false) a w (wpAny P .any ops Q fuel (listed.setIfInBounds i true)) ho hLf hdep hI (fun a' w' hI'=>ih _ a' w' (by simpa using hs) (by
        rw[heq];have:=todo_set (L:=fun j=>listed.getD j false) hLf hlt
        omega) (by rw[heq];exact hI'))
      unfold wpOp;rw[ho]
      show if Region.wanted o (yielded ops a.tmps)=true then o.wp P a w (wpAny P .any ops Q fuel (listed.setIfInBounds i true)) Q∨(o.asks P a w∧LetsOut Q) else wpAny P .any ops Q fuel (listed.setIfInBounds i true) (a.put o.dst undef) w
      split
      ·next h=>rw[if_pos h] at hst;exact .inl hst
      ·next h=>rw[if_neg h] at hst;exact hst
  refine key ops.size (Array.replicate ops.size false) a w.drew (by simp) ?_ ?_
  · have:(fun j=>(Array.replicate ops.size false).getD j false)=fun _=>false:=by
      funext j
      simp[Array.getD_eq_getD_getElem?,Array.getElem?_replicate]
      split<;>rfl
    rw[this];exact todo_all _
  · have:(fun j=>(Array.replicate ops.size false).getD j false)=fun _=>false:=by
      funext j
      simp[Array.getD_eq_getD_getElem?,Array.getElem?_replicate]
      split<;>rfl
    rw[this];exact h0
end
end Go.Proofs.YtinmmkcjjlconaaGreat
