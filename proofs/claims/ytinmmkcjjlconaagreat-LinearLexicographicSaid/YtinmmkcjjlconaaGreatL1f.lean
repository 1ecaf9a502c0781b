/- Parts of the proofs about this seat's statements. -/
import Derived.Test.YtinmmkcjjlconaaGreatL1e
set_option maxRecDepth 100000
set_option maxHeartbeats 16000000
namespace Go.Proofs.YtinmmkcjjlconaaGreat
open Go.RowKit W
open Pl (bval enc bv nb bv_nb nb_size_le nb_size_zero nb_size_mono nb_bv_size bv_lt cmpN nb_inj)
open Rq
theorem Sz_neg {q:Rat} {k:Nat} (h:Sz q k):Sz (-q) k:=by
 refine⟨?_,?_⟩
 ·rw[(neg_parts q).1];exact h.1
 ·rw[(neg_parts q).2];exact h.2
theorem Sz_mk {neg:Bool} {n d k:Nat} (hd:0<d) (h1:(nb n).size≤k) (h2:(nb d).size≤k):Sz (mk neg n d) k:=by
 refine⟨?_,?_⟩
 ·rw[mk_abs hd];exact div_size h1
 ·rw[mk_den hd];exact div_size h2
theorem Sz_mul {p q:Rat} {a b:Nat} (hp:Sz p a) (hq:Sz q b):Sz (p*q) (a+b):=by
 rw[←mul_mk]
 exact Sz_mk (Nat.mul_pos p.den_pos q.den_pos) (size_mul hp.1 hq.1) (size_mul hp.2 hq.2)
theorem Sz_add {p q:Rat} {a b:Nat} (hp:Sz p a) (hq:Sz q b):Sz (p+q) (a+b+1):=by
 have s3:=size_mul hp.1 hq.2;have s4:=size_mul hq.1 hp.2;have hd:=Nat.mul_pos p.den_pos q.den_pos
 have s2:(nb (p.den*q.den)).size≤a+b+1:=Nat.le_trans (size_mul hp.2 hq.2) (by omega)
 by_cases h:decide (p.num<0)=decide (q.num<0)
 ·rw[←add_same h]
  exact Sz_mk hd (add_size s3 (by omega)) s2
 ·rcases Nat.lt_or_ge (p.num.natAbs*q.den) (q.num.natAbs*p.den) with hl|hl
  ·rw[←add_lt h hl]
   exact Sz_mk hd (Nat.le_trans (nb_size_mono (Nat.sub_le _ _)) (by omega)) s2
  ·rw[←add_ge h hl]
   exact Sz_mk hd (Nat.le_trans (nb_size_mono (Nat.sub_le _ _)) (by omega)) s2
theorem Sz_sub {p q:Rat} {a b:Nat} (hp:Sz p a) (hq:Sz q b):Sz (p-q) (a+b+1):=by
 rw[Rat.sub_eq_add_neg];exact Sz_add hp (Sz_neg hq)
theorem Sz_div {p q:Rat} {a b:Nat} (hp:Sz p a) (hq:Sz q b) (hz:q≠0):Sz (p/q) (a+b):=by
 have nq:0<q.num.natAbs:=Nat.pos_of_ne_zero fun e=>hz (num_zero.1 e);rw[←div_mk hz]
 exact Sz_mk (Nat.mul_pos p.den_pos nq) (size_mul hp.1 hq.2) (size_mul hp.2 hq.1)
theorem xmul_n {w:World} {i j:Nat} (a b:Nat) (ha:(nb a).size≤i) (hb:(nb b).size≤j) (h:i≤134217728∧j≤134217728):Calls Tryz.prog 64 #[.string (nb a),.string (nb b)] w fun e w'=>e= .returned (.string (nb (a*b)))∧Below w.heap.size w w':=by
 have:=mul_any (nb a) (nb b) w (Nat.le_trans ha h.1) (Nat.le_trans hb h.2)
 rwa [bv_nb,bv_nb] at this
theorem xadd_n {w:World} {i j:Nat} (a b:Nat) (ha:(nb a).size≤i) (hb:(nb b).size≤j) (h:i≤134217728∧j≤134217728):Calls Tryz.prog 60 #[.string (nb a),.string (nb b)] w fun e w'=>e= .returned (.string (nb (a+b)))∧Below w.heap.size w w':=by
 have:=add_any (nb a) (nb b) w (Nat.le_trans ha h.1) (Nat.le_trans hb h.2)
 rwa [bv_nb,bv_nb] at this
theorem xsub_n {w:World} {i j:Nat} (a b:Nat) (ha:(nb a).size≤i) (hb:(nb b).size≤j) (h:i≤1073741823∧j≤1073741823) (hl:b≤a):Calls Tryz.prog 72 #[.string (nb a),.string (nb b)] w fun e w'=>e= .returned (.tuple #[.string (nb (a-b)),.bool true])∧Below w.heap.size w w':=by
 have:=sub_yes (nb a) (nb b) w (Nat.le_trans ha h.1) (Nat.le_trans hb h.2) (by rw[bv_nb,bv_nb];exact hl)
 rwa [bv_nb,bv_nb] at this
theorem xcmp_n {w:World} {i j:Nat} (a b:Nat) (ha:(nb a).size≤i) (hb:(nb b).size≤j) (h:i≤4294967296∧j≤4294967296):Calls Tryz.prog 71 #[.string (nb a),.string (nb b)] w fun e w'=>e= .returned (.int .i64 (cmpN a b))∧Below w.heap.size w w':=by
 have:=cmps_any (nb a) (nb b) w (Nat.le_trans ha h.1) (Nat.le_trans hb h.2);rw[bv_nb,bv_nb] at this
 exact this.mono fun _ _ h=>⟨h.1,h.2▸Below.refl _ _⟩
theorem rneg2_any (q:Rat) (w:World) (hq:Sz q 134217728):
  Calls Tryz.prog 21 #[rv q] w fun e w'=>e= .returned (rv (-q))∧Below w.heap.size w w':=by
 have n1:=Lib.hid (neg_parts q).1.symm;have n2:=Lib.hid (neg_parts q).2.symm;have n3:=Lib.hid (neg_sign q);unfold rv
 go_enter Tryz.func21,Tryz.ntmps21
 obtain⟨W0,gA,gR,hQ,bA,bR,n4,k1,k2,ag⟩:=opnR1 w q 33
 go_upto_region 1 with fail
 obtain⟨hW,hR,hA⟩:=hQ.out;rw[hW,hR,hA];clear hW hR hA hQ;have⟨a0,a0',a1,a1',a2,a2'⟩:=bA.c3
 go_wp2_with fail
 refine(rvalue2_any q _ hq).mono ?_
 rintro e W ⟨rfl,hb⟩;replace bA:=bA.below hb;replace bR:=bR.below hb;replace ag:=ag.tr hb;clear a0 a0' a1 a1' a2 a2' hb;have⟨a0,a0',a1,a1',a2,a2'⟩:=bA.c3;have hset:= @setCell_same W
 by_cases hz:q.num.natAbs=0
 ·have he:(nb q.num.natAbs).toList= []:=by rw[hz];exact nb0_nil
  have hs:=Lib.hid (show decide (q.num<0)=decide ((-q).num<0) by rw[n3.out,decide_eq_false (show ¬q.num<0 by omega),hz];rfl)
  have⟨r0,r0',r1,r1',r2,r2'⟩:=bR.c3;clear hz
  go_wp2_with fail
  exact bodyPost_ret (retc3 rfl rfl (bR.put3 _ _ _).c3) rfl ⟨congrArg Ending.returned (ret_rv hs.out n1.out n2.out),((ag.setCell (p:=⟨gR,0,none⟩) k2 _).setCell (p:=⟨gR,1,none⟩) k2 _).setCell (p:=⟨gR,2,none⟩) k2 _⟩
 ·have hne:=nb_ne hz
  have hie:=nb_isE hz
  have hs:=Lib.hid (show(!decide (q.num<0))=decide ((-q).num<0) by rw[n3.out,decide_eq_true hz,Bool.and_true])
  go_upto_region 4 with fail
  clear a0 a0' a1 a1' a2 a2' hset
  replace bA:=bA.put 0 (.bool (!decide (q.num<0))) (by simp)
  replace bR:=bR.other (p:=⟨gA,0,none⟩) n4 (.bool (!decide (q.num<0)));replace ag:=ag.setCell (p:=⟨gA,0,none⟩) k1 (.bool (!decide (q.num<0)))
  simp only[List.set] at bA
  generalize W.setCell ⟨gA,0,none⟩ (.bool (!decide (q.num<0)))=W1 at*;have⟨a0,a0',a1,a1',a2,a2'⟩:=bA.c3;have⟨r0,r0',r1,r1',r2,r2'⟩:=bR.c3
  go_wp2_with fail
  exact bodyPost_ret (retc3 rfl rfl (bR.put3 _ _ _).c3) rfl ⟨congrArg Ending.returned (ret_rv hs.out n1.out n2.out),((ag.setCell (p:=⟨gR,0,none⟩) k2 _).setCell (p:=⟨gR,1,none⟩) k2 _).setCell (p:=⟨gR,2,none⟩) k2 _⟩
theorem rmul2_any (p q:Rat) (w:World) (hp:Sz p 33554432) (hq:Sz q 33554432):
  Calls Tryz.prog 29 #[rv p,rv q] w fun e w'=>e= .returned (rv (p*q))∧Below w.heap.size w w':=by
 unfold rv
 go_enter Tryz.func29,Tryz.ntmps29
 obtain⟨W0,gA,gB,gR,hQ,⟨a0,a0',a1,a1',a2,a2'⟩,⟨b0,b0',b1,b1',b2,b2'⟩,bR,n1,n2,n3,ag⟩:=opnR2 w p q 33
 go_upto_region 1 with fail
 obtain⟨hW,hR,hB,hA⟩:=hQ.out;rw[hW,hR,hB,hA];clear hW hR hB hA hQ;have hS:=Off.refl (fun b=>b=gR) W0;have s1:=size_mul hp.1 hq.1;have s2:=size_mul hp.2 hq.2;have E:=Lib.hid (show mk (!(decide (p.num<0)==decide (q.num<0))) (p.num.natAbs*q.num.natAbs) (p.den*q.den)=p*q from mul_mk p q)
 go_wp2_with fail
 refine(rvalue2_any p _ (hp.mono (by decide))).mono ?_
 rintro e W ⟨rfl,hb⟩;replace bR:=bR.below hb;replace hS:=hS.step hb;have hr:=off_rule hS;have hf:=off_frz hS;have hset:= @setCell_same W
 go_wp2_with fail
 clear hset hf hr
 refine(rvalue2_any q _ (hq.mono (by decide))).mono ?_
 rintro e W ⟨rfl,hb⟩;replace bR:=bR.below hb;replace hS:=hS.step hb;have hr:=off_rule hS;have hf:=off_frz hS;have hset:= @setCell_same W
 go_upto_region 3 with fail
 refine wp_schS (ps 0 9 (ps 10 4 (.c 9 (.c 14 (.c 15 (.c 16 .e)))))) [2,3,4] fun A W hA hb hS=>?_
 replace bR:=bR.below hb
 repeat(refine isP ?_;refine tkO ?_)
 refine clO (xmul_n _ _ hp.1 hq.1 (by decide)) fun W hb hS=>?_
 replace bR:=bR.below hb
 refine clO (xmul_n _ _ hp.2 hq.2 (by decide)) fun W hb hS=>?_
 replace bR:=bR.below hb
 refine clO (E.out▸rlow_any (!(decide (p.num<0)==decide (q.num<0))) _ _ _ (Nat.mul_pos p.den_pos q.den_pos) (Nat.le_trans s1 (by decide)) (Nat.le_trans s2 (by decide))) fun W hb hS=>?_
 replace bR:=bR.below hb
 refine st3 bR fun W bR _ hS=>?_
 refine enO hA ?_
 go_wp2_with fail
 exact bodyPost_ret (retc3 rfl rfl bR.c3) rfl ⟨rfl,offB ag hS n3 ag.size⟩
theorem radd2_any (p q:Rat) (w:World) (hp:Sz p 33554432) (hq:Sz q 33554432):
  Calls Tryz.prog 38 #[rv p,rv q] w fun e w'=>e= .returned (rv (p+q))∧Below w.heap.size w w':=by
 unfold rv
 go_enter Tryz.func38,Tryz.ntmps38
 obtain⟨W0,gA,gB,gR,hQ,⟨a0,a0',a1,a1',a2,a2'⟩,⟨b0,b0',b1,b1',b2,b2'⟩,bR,n1,n2,n3,ag⟩:=opnR2 w p q 33
 go_upto_region 1 with fail
 obtain⟨hW,hR,hB,hA⟩:=hQ.out;rw[hW,hR,hB,hA];clear hW hR hB hA hQ;have hS:=Off.refl (fun b=>b=gR) W0;have s1:=size_mul hp.1 hq.2;have s2:=size_mul hq.1 hp.2;have s3:=size_mul hp.2 hq.2;have s4:=add_size s1 s2
 go_wp2_with fail
 refine(rvalue2_any p _ (hp.mono (by decide))).mono ?_
 rintro e W ⟨rfl,hb⟩;replace bR:=bR.below hb;replace hS:=hS.step hb;have hr:=off_rule hS;have hf:=off_frz hS;have hset:= @setCell_same W
 go_wp2_with fail
 clear hset hf hr
 refine(rvalue2_any q _ (hq.mono (by decide))).mono ?_
 rintro e W ⟨rfl,hb⟩;replace bR:=bR.below hb;replace hS:=hS.step hb;have hr:=off_rule hS;have hf:=off_frz hS;have hset:= @setCell_same W
 go_wp2_with fail
 clear hset hf hr
 refine(xmul_n _ _ hp.1 hq.2 (by decide)).mono ?_
 rintro e W ⟨rfl,hb⟩;replace bR:=bR.below hb;replace hS:=hS.step hb;have hr:=off_rule hS
 go_wp2_with fail
 clear hr
 refine(xmul_n _ _ hq.1 hp.2 (by decide)).mono ?_
 rintro e W ⟨rfl,hb⟩;replace bR:=bR.below hb;replace hS:=hS.step hb;have hr:=off_rule hS
 go_wp2_with fail
 clear hr
 refine(xmul_n _ _ hp.2 hq.2 (by decide)).mono ?_
 rintro e W ⟨rfl,hb⟩;replace bR:=bR.below hb;replace hS:=hS.step hb;have hr:=off_rule hS
 by_cases h:decide (p.num<0)=decide (q.num<0)
 ·have E:=Lib.hid (add_same h)
  have hc:(decide (p.num<0)==decide (q.num<0))=true:=by rw[h];simp
  clear h
  go_upto_region 7 with fail
  refine wp_schS (ps 0 4 (.p 5 (.c 4 (.c 6 (.c 7 .e))))) [2,5,6,7,4] fun A W hA hb hS=>?_
  replace bR:=bR.below hb
  repeat(refine isP ?_;refine tkO ?_)
  refine clO (xadd_n _ _ s1 s2 (by decide)) fun W hb hS=>?_
  replace bR:=bR.below hb
  refine clO (E.out▸rlow_any (decide (p.num<0)) _ _ _ (Nat.mul_pos p.den_pos q.den_pos) (Nat.le_trans s4 (by decide)) (Nat.le_trans s3 (by decide))) fun W hb hS=>?_
  replace bR:=bR.below hb
  refine st3 bR fun W bR _ hS=>?_
  refine enO hA ?_
  go_wp2_with fail
  exact bodyPost_ret (retc3 rfl rfl bR.c3) rfl ⟨rfl,offB ag hS n3 ag.size⟩
 ·have hc:(decide (p.num<0)==decide (q.num<0))=false:=by simpa using h
  go_wp2_with fail
  clear hr
  refine(xcmp_n (p.num.natAbs*q.den) (q.num.natAbs*p.den) s1 s2 (by decide)).mono ?_
  rintro e W ⟨rfl,hb⟩;replace bR:=bR.below hb;replace hS:=hS.step hb;have hr:=off_rule hS
  rcases Nat.lt_or_ge (p.num.natAbs*q.den) (q.num.natAbs*p.den) with hl|hl
  ·have E:=Lib.hid (add_lt h hl)
   rw[Pl.cmpN_lt hl];clear h;replace hl:=Nat.le_of_lt hl
   go_wp2_with fail
   clear hr
   refine(xsub_n _ _ s2 s1 (by decide) hl).mono ?_
   rintro e W ⟨rfl,hb⟩;replace bR:=bR.below hb;replace hS:=hS.step hb;have hr:=off_rule hS
   go_wp2_with fail
   refine(E.out▸rlow_any (decide (q.num<0)) _ _ _ (Nat.mul_pos p.den_pos q.den_pos) (Nat.le_trans (Nat.le_trans (nb_size_mono (Nat.sub_le _ _)) s2) (by decide)) (Nat.le_trans s3 (by decide))).mono ?_
   rintro e W' ⟨rfl,hb⟩;have⟨r0,r0',r1,r1',r2,r2'⟩:=(bR.below hb).c3
   go_wp2_with fail
   exact bodyPost_ret (retc3 rfl rfl ((bR.below hb).put3 _ _ _).c3) rfl ⟨rfl,offB ag (off_set3 (hS.step hb) rfl) n3 ag.size⟩
  ·have E:=Lib.hid (add_ge h hl)
   obtain⟨c,hc1,hc2⟩: ∃c:Int,cmpN (p.num.natAbs*q.den) (q.num.natAbs*p.den)=c∧0≤c:=⟨_,rfl,by unfold cmpN;split<;>(try split)<;>omega⟩
   rw[hc1];clear h hc1
   go_wp2_with fail
   clear hr
   refine(xsub_n _ _ s1 s2 (by decide) hl).mono ?_
   rintro e W ⟨rfl,hb⟩;replace bR:=bR.below hb;replace hS:=hS.step hb;have hr:=off_rule hS
   go_wp2_with fail
   refine(E.out▸rlow_any (decide (p.num<0)) _ _ _ (Nat.mul_pos p.den_pos q.den_pos) (Nat.le_trans (Nat.le_trans (nb_size_mono (Nat.sub_le _ _)) s1) (by decide)) (Nat.le_trans s3 (by decide))).mono ?_
   rintro e W' ⟨rfl,hb⟩;have⟨r0,r0',r1,r1',r2,r2'⟩:=(bR.below hb).c3
   go_wp2_with fail
   exact bodyPost_ret (retc3 rfl rfl ((bR.below hb).put3 _ _ _).c3) rfl ⟨rfl,offB ag (off_set3 (hS.step hb) rfl) n3 ag.size⟩
theorem rsub2_any (p q:Rat) (w:World) (hp:Sz p 33554432) (hq:Sz q 33554432):
  Calls Tryz.prog 65 #[rv p,rv q] w fun e w'=>e= .returned (rv (p-q))∧Below w.heap.size w w':=by
 have Hn:=Lib.hid (fun W=>rneg2_any q W (hq.mono (by decide)))
 have Ha:=Lib.hid (fun W=>radd2_any p (-q) W hp (Sz_neg hq));rw[Rat.sub_eq_add_neg];generalize-q=nq at*;generalize p+nq=r at*;unfold rv
 go_enter Tryz.func65,Tryz.ntmps65
 obtain⟨W0,gA,gB,gR,hQ,⟨a0,a0',a1,a1',a2,a2'⟩,⟨b0,b0',b1,b1',b2,b2'⟩,bR,n1,n2,n3,ag⟩:=opnR2 w p q 33
 go_upto_region 1 with fail
 obtain⟨hW,hR,hB,hA⟩:=hQ.out;rw[hW,hR,hB,hA];clear hW hR hB hA hQ;have hS:=Off.refl (fun b=>b=gR) W0
 refine wp_schS (ps 0 2 (.c 2 (.c 3 (.c 4 .e)))) [2,3,4] fun A W hA hb hS=>?_
 replace bR:=bR.below hb
 repeat(refine isP ?_;refine tkO ?_)
 refine clO (Hn.out _) fun W hb hS=>?_
 replace bR:=bR.below hb
 refine clO (Ha.out _) fun W hb hS=>?_
 replace bR:=bR.below hb
 refine st3 bR fun W bR _ hS=>?_
 refine enO hA ?_
 go_wp2_with fail
 exact bodyPost_ret (retc3 rfl rfl bR.c3) rfl ⟨rfl,offB ag hS n3 ag.size⟩
theorem rcmp2_any (p q:Rat) (w:World) (hp:Sz p 33554432) (hq:Sz q 33554432):
  Calls Tryz.prog 24 #[rv p,rv q] w fun e w'=>e= .returned (.int .i64 (sgn (p-q)))∧Below w.heap.size w w':=by
 have Hs:=Lib.hid (fun W=>rsub2_any p q W hp hq)
 have Hg:=Lib.hid (fun W=>rsign2_any (p-q) W ((Sz_sub hp hq).mono (by decide)))
 generalize p-q=d at*;unfold rv
 simp only[rv] at Hs Hg
 generalize decide (p.num<0)=sp at*;generalize decide (q.num<0)=sq at*;generalize nb p.num.natAbs=np at*;generalize nb q.num.natAbs=nq at*;generalize nb p.den=dp at*;generalize nb q.den=dq at*;clear hp hq
 go_enter Tryz.func24,Tryz.ntmps24
 obtain⟨W0,gA,gB,hQ,⟨a0,a0',a1,a1',a2,a2'⟩,⟨b0,b0',b1,b1',b2,b2'⟩,ag⟩:=opnC w sp sq np dp nq dq 33
 go_upto_region 1 with fail
 obtain⟨hW,hB,hA⟩:=hQ.out;rw[hW,hB,hA];clear hW hB hA hQ
 go_wp2_with fail
 refine(Hs.out _).mono ?_
 rintro e W ⟨rfl,hb⟩;replace ag:=ag.tr hb
 go_wp2_with fail
 refine(Hg.out _).mono ?_
 rintro e W ⟨rfl,hb⟩;replace ag:=ag.tr hb
 go_wp2_with fail
 go_ret
 exact⟨rfl,ag⟩
theorem rquo2_any (p q:Rat) (w:World) (hp:Sz p 33554432) (hq:Sz q 33554432) (hz:q≠0):
  Calls Tryz.prog 22 #[rv p,rv q] w fun e w'=>e= .returned (.tuple #[rv (p/q),.bool true])∧Below w.heap.size w w':=by
 have hn0:q.num.natAbs≠0:=fun e=>hz (num_zero.1 e);have hne:=nb_ne hn0;have hie:=nb_isE hn0;have E:=Lib.hid (show mk (!(decide (p.num<0)==decide (q.num<0))) (p.num.natAbs*q.den) (p.den*q.num.natAbs)=p/q from div_mk (p:=p) hz)
 have nq:0<q.num.natAbs:=by omega
 clear hz hn0;unfold rv
 go_enter Tryz.func22,Tryz.ntmps22
 obtain⟨W0,gA,gB,gR,hQ,⟨a0,a0',a1,a1',a2,a2'⟩,⟨b0,b0',b1,b1',b2,b2'⟩,bR,n1,n2,n3,ag⟩:=opnR2 w p q 33
 go_upto_region 1 with fail
 obtain⟨hW,hR,hB,hA⟩:=hQ.out;rw[hW,hR,hB,hA];clear hW hR hB hA hQ;have hS:=Off.refl (fun b=>b=gR) W0;have s1:=size_mul hp.1 hq.2;have s2:=size_mul hp.2 hq.1
 go_wp2_with fail
 refine(rvalue2_any p _ (hp.mono (by decide))).mono ?_
 rintro e W ⟨rfl,hb⟩;replace bR:=bR.below hb;replace hS:=hS.step hb;have hr:=off_rule hS;have hf:=off_frz hS;have hset:= @setCell_same W
 go_wp2_with fail
 clear hset hf hr
 refine(rvalue2_any q _ (hq.mono (by decide))).mono ?_
 rintro e W ⟨rfl,hb⟩;replace bR:=bR.below hb;replace hS:=hS.step hb;have hr:=off_rule hS;have hf:=off_frz hS;have hset:= @setCell_same W
 go_upto_region 5 with fail
 clear hset hf hr
 refine wp_schS (ps 0 9 (ps 10 4 (.c 9 (.c 14 (.c 15 (.c 16 (.p 17 .e))))))) [2,3,4] fun A W hA hb hS=>?_
 replace bR:=bR.below hb
 repeat(refine isP ?_;refine tkO ?_)
 refine clO (xmul_n _ _ hp.1 hq.2 (by decide)) fun W hb hS=>?_
 replace bR:=bR.below hb
 refine clO (xmul_n _ _ hp.2 hq.1 (by decide)) fun W hb hS=>?_
 replace bR:=bR.below hb
 refine clO (E.out▸rlow_any (!(decide (p.num<0)==decide (q.num<0))) _ _ _ (Nat.mul_pos p.den_pos nq) (Nat.le_trans s1 (by decide)) (Nat.le_trans s2 (by decide))) fun W hb hS=>?_
 replace bR:=bR.below hb
 refine st3 bR fun W bR _ hS=>?_
 refine tkO ?_
 refine enO hA ?_
 go_wp2_with fail
 exact bodyPost_ret (retc4 rfl rfl rfl bR.c3) rfl ⟨rfl,offB ag hS n3 ag.size⟩
end Go.Proofs.YtinmmkcjjlconaaGreat
