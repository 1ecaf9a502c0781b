/- Parts of the proofs about this seat's statements. -/
import Derived.Test.YtinmmkcjjlconaaGreatL1s
set_option maxRecDepth 100000
set_option maxHeartbeats 16000000
namespace Go.Proofs.YtinmmkcjjlconaaGreat
open Go.RowKit W
open Pl (nb bv bv_nb nb_size_zero)
open Lp (S S_succ)
theorem PR.alloc{w:World}{p:Value}{m n:Nat}{A:Nat→Nat→Rat}{B C:Nat→Rat}(h:PR w p m n A B C)(o:Obj):PR (w.alloc o) p m n A B C:=h.below ((Below.refl _ _).alloc (Nat.le_refl _) o)
theorem PR.drew{w:World}{p:Value}{m n:Nat}{A:Nat→Nat→Rat}{B C:Nat→Rat}(h:PR w p m n A B C):PR w.drew p m n A B C:=h.below (Below.refl _ _).drew
theorem pr_of {w:World} {BM m n:Nat} {aM:Option Addr} {cM:Nat} {rows:List Value} {A:Nat→Nat→Rat} {B C:Nat→Rat} {vB vC:Value} (hM:Vals 27 w BM (.slice aM m cM) rows) (hl:rows.length=m) (hrow: ∀i,i<m→SlR w (rows.getD i undef) n (A i)) (hb:SlR w vB m B) (hc:SlR w vC n C):PR w (.agg #[.slice aM m cM,vB,vC]) m n A B C:=by
 refine⟨_,vB,vC,rfl,?_,hb,hc⟩
 obtain⟨a,cap,e,h1⟩:=hM.form
 obtain⟨rfl, -⟩:aM=a∧m=rows.length∧cM=cap:=by simpa using e
 refine⟨aM,cM,rfl,fun h0=>?_⟩
 obtain⟨g',e2,ho⟩:=h1 (by omega)
 have hcl:=hM.rowC ho
 refine⟨g',e2,hcl.1,fun i hi=>⟨rows.getD i undef,hcl.2 i (by omega),hrow i hi⟩⟩
theorem mat_of {w:World} {BM m n:Nat} {aM:Option Addr} {cM:Nat} {rows:List Value} {A:Nat→Nat→Rat} (hM:Vals 27 w BM (.slice aM m cM) rows) (hl:rows.length=m) (hrow: ∀i,i<m→SlR w (rows.getD i undef) n (A i)):MatR w (.slice aM m cM) m n A:=by
 obtain⟨a,cap,e,h1⟩:=hM.form
 obtain⟨rfl, -⟩:aM=a∧m=rows.length∧cM=cap:=by simpa using e
 refine⟨aM,cM,rfl,fun h0=>?_⟩
 obtain⟨g',e2,ho⟩:=h1 (by omega)
 have hcl:=hM.rowC ho
 exact⟨g',e2,hcl.1,fun i hi=>⟨rows.getD i undef,hcl.2 i (by omega),hrow i hi⟩⟩
theorem ofL_Q {zs:List Int} {H:Nat} (h: ∀z∈zs,z.natAbs≤H) (i:Nat):Lp.Q 1 H (ofL zs i):=by
 unfold ofL
 refine int_Q ?_
 rw[Nat.mul_one,List.getD_eq_getElem?_getD]
 by_cases hi:i<zs.length
 ·rw[List.getElem?_eq_getElem hi];exact h _ (List.getElem_mem hi)
 ·rw[List.getElem?_eq_none (by omega)];exact Nat.zero_le _
theorem ofM_Q {zs:List (List Int)} {H:Nat} (h: ∀l∈zs,∀z∈l,z.natAbs≤H) (i j:Nat):Lp.Q 1 H (ofM zs i j):=by
 unfold ofM
 refine ofL_Q ?_ j
 rw[List.getD_eq_getElem?_getD]
 by_cases hi:i<zs.length
 ·rw[List.getElem?_eq_getElem hi];exact h _ (List.getElem_mem hi)
 ·rw[List.getElem?_eq_none (by omega)];intro z hz;simp at hz
theorem small1:Small 3 2 (ofM mA) (ofL [4,7,3]) (ofL [3,2]) 1 10 4:=⟨by decide,by decide,by decide,fun i j _ _=>ofM_Q (by decide) i j,fun i _=>ofL_Q (by decide) i,fun j _=>ofL_Q (by decide) j⟩
theorem small2:Small 1 1 (ofM [[1]]) (ofL [-1]) (ofL [1]) 1 1 1:=⟨by decide,by decide,by decide,fun i j _ _=>ofM_Q (by decide) i j,fun i _=>ofL_Q (by decide) i,fun j _=>ofL_Q (by decide) j⟩
theorem small3:Small 1 1 (ofM [[-1]]) (ofL [1]) (ofL [1]) 1 1 1:=⟨by decide,by decide,by decide,fun i j _ _=>ofM_Q (by decide) i j,fun i _=>ofL_Q (by decide) i,fun j _=>ofL_Q (by decide) j⟩
theorem small4:Small 1 1 (ofM [[-1]]) mhlf (ofL [-1]) 2 2 2:=⟨by decide,by decide,by decide,fun i j _ _=>(ofM_Q (H:=1) (by decide) i j).scale 2,fun i _=>⟨-1,by show-(1/2:Rat)*_=_;decide+kernel,by decide⟩,fun j _=>(ofL_Q (H:=1) (by decide) j).scale 2⟩
theorem small5:Small 0 0 (fun _ _=>0) (fun _=>0) (fun _=>0) 1 1 1:=⟨by decide,by decide,by decide,fun i j h=>by omega,fun i h=>by omega,fun j h=>by omega⟩
theorem list_c (zs:List Int) (n:Nat) (hn:zs.length=n) (hl:n≤1000) (hz: ∀z∈zs, -1000000≤z∧z≤1000000) (v:Value) (w:World) (h:Vals 3 w 0 v (zs.map (Value.int .i64))):
  Calls Tryz.prog 36 #[v] w fun e w'=> ∃a c,e= .returned (.slice a n c)∧Rats w' w.heap.size (.slice a n c) (raws n (ofL zs))∧Below w.heap.size w w':=by
 subst hn
 refine list_any v zs w h hl (fun i hi=>?_)
 rw[List.getD_eq_getElem?_getD,List.getElem?_eq_getElem hi]
 exact hz _ (List.getElem_mem hi)
theorem lsanity_any (w:World):Calls Tryz.prog 12 #[] w fun e w'=>e= .returned (.bool true)∧Below w.heap.size w w':=by
 obtain⟨f1,g1,s1⟩:=small1.fit (by decide) (by decide)
 have HS1:=Lib.hid (fun W p (h:PR W p 3 2 (ofM mA) (ofL [4,7,3]) (ofL [3,2]))=>solve_any p 3 2 _ _ _ W h (by decide) (by decide) s1 f1 g1)
 have HZ1:=Lib.hid (And.intro f1 s1);clear f1 g1 s1;obtain⟨x11,hx11⟩: ∃x:Rat,x=11:=⟨_,rfl⟩;have HX11:=Lib.hid hx11
 have HO11:Hid (∀W,Calls Tryz.prog 18 #[.int .i64 11] W fun e w'=>e= .returned (rv x11)∧Below W.heap.size W w'):=Lib.hid (fun W=>by rw[hx11];exact rof2_any 11 W (by decide) (by decide))
 clear hx11
 simp only[rv] at HO11
 have HLa:Hid (∀(v:Value) (W:World),Vals 3 W 0 v [.int .i64 1,.int .i64 1]→_):=Lib.hid (list_c [1,1] 2 rfl (by decide) (by decide))
 have HLb:Hid (∀(v:Value) (W:World),Vals 3 W 0 v [.int .i64 1,.int .i64 3]→_):=Lib.hid (list_c [1,3] 2 rfl (by decide) (by decide))
 have HLc:Hid (∀(v:Value) (W:World),Vals 3 W 0 v [.int .i64 1,.int .i64 0]→_):=Lib.hid (list_c [1,0] 2 rfl (by decide) (by decide))
 have HLd:Hid (∀(v:Value) (W:World),Vals 3 W 0 v [.int .i64 4,.int .i64 7,.int .i64 3]→_):=Lib.hid (list_c [4,7,3] 3 rfl (by decide) (by decide))
 have HLe:Hid (∀(v:Value) (W:World),Vals 3 W 0 v [.int .i64 3,.int .i64 2]→_):=Lib.hid (list_c [3,2] 2 rfl (by decide) (by decide))
 have HLf:Hid (∀(v:Value) (W:World),Vals 3 W 0 v [.int .i64 3,.int .i64 1]→_):=Lib.hid (list_c [3,1] 2 rfl (by decide) (by decide))
 have HLh:Hid (∀(v:Value) (W:World),Vals 3 W 0 v [.int .i64 2,.int .i64 0,.int .i64 1]→_):=Lib.hid (list_c [2,0,1] 3 rfl (by decide) (by decide))
 have HLi:Hid (∀(v:Value) (W:World),Vals 3 W 0 v [.int .i64 1]→_):=Lib.hid (list_c [1] 1 rfl (by decide) (by decide))
 have HLj:Hid (∀(v:Value) (W:World),Vals 3 W 0 v [.int .i64 (-1)]→_):=Lib.hid (list_c [-1] 1 rfl (by decide) (by decide))
 have HLk:Hid (∀(v:Value) (W:World),Vals 3 W 0 v [.int .i64 1]→_):=Lib.hid (list_c [1] 1 rfl (by decide) (by decide))
 have HLl:Hid (∀(v:Value) (W:World),Vals 3 W 0 v [.int .i64 (-1)]→_):=Lib.hid (list_c [-1] 1 rfl (by decide) (by decide))
 have HLn:Hid (∀(v:Value) (W:World),Vals 3 W 0 v [.int .i64 1]→_):=Lib.hid (list_c [1] 1 rfl (by decide) (by decide))
 have HLo:Hid (∀(v:Value) (W:World),Vals 3 W 0 v [.int .i64 1]→_):=Lib.hid (list_c [1] 1 rfl (by decide) (by decide))
 have HL1:Hid (∀(v:Value) (W:World),Vals 3 W 0 v [.int .i64 1]→_):=Lib.hid (list_c [1] 1 rfl (by decide) (by decide))
 obtain⟨f2,g2,s2⟩:=small2.fit (by decide) (by decide)
 obtain⟨f3,g3,s3⟩:=small3.fit (by decide) (by decide)
 have HS2:Hid (∀W p,PR W p 1 1 (ofM [[1]]) (ofL [-1]) (ofL [1])→Calls Tryz.prog 14 #[p] W fun e w'=>e= .returned (.tuple #[solZ,.int .i64 16])∧Below W.heap.size W w'):=Lib.hid (fun W p h=>(solve_any p 1 1 _ _ _ W h (by decide) (by decide) s2 f2 g2).mono (by
  rintro e w' ⟨hb,code,T,hsol,hres⟩;obtain rfl:=sol_code hsol (.empty ex2_no)
  rcases hres with⟨h,_⟩|⟨_,h⟩|⟨h,_⟩
  ·exact absurd h (by decide)
  ·exact⟨h,hb⟩
  ·exact absurd h (by decide)))
 have HS3:Hid (∀W p,PR W p 1 1 (ofM [[-1]]) (ofL [1]) (ofL [1])→Calls Tryz.prog 14 #[p] W fun e w'=>e= .returned (.tuple #[solZ,.int .i64 40])∧Below W.heap.size W w'):=Lib.hid (fun W p h=>(solve_any p 1 1 _ _ _ W h (by decide) (by decide) s3 f3 g3).mono (by
  rintro e w' ⟨hb,code,T,hsol,hres⟩;obtain rfl:=sol_code hsol (.unb ex3_unb)
  rcases hres with⟨h,_⟩|⟨h,_⟩|⟨_,h⟩
  ·exact absurd h (by decide)
  ·exact absurd h (by decide)
  ·exact⟨h,hb⟩))
 clear f2 g2 s2 f3 g3 s3
 obtain⟨f4,g4,s4⟩:=small4.fit (by decide) (by decide)
 have HS4':Hid (∀W p,PR W p 1 1 (ofM [[-1]]) mhlf (ofL [-1])→Calls Tryz.prog 14 #[p] W fun e w'=>(∃gx gy,e= .returned (.tuple #[solV gx gy 1 1 (-(1/2)),.int .i64 0])∧W.heap.size≤gx∧W.heap.size≤gy∧Row3 w' gx 1 (fun j=>q3 (hlf j))∧Row3 w' gy 1 (fun j=>q3 (ofL [1] j)))∧Below W.heap.size W w'):=Lib.hid (fun W p h=>(solve_any p 1 1 _ _ _ W h (by decide) (by decide) s4 f4 g4).mono (by
  rintro e w' ⟨hb,code,T,hsol,hres⟩;obtain rfl:=sol_code hsol (.ok ex4_ok);obtain⟨hv,hx,hy⟩:=ex4_all hsol.cert
  rcases hres with⟨_,gx,gy,rfl,k1,k2,_,hX,hY⟩|⟨h,_⟩|⟨h,_⟩
  ·rw[hv]
   exact⟨⟨gx,gy,rfl,k1,k2,hX.congr (fun j hj=>by rw[hx j hj]),hY.congr (fun j hj=>by rw[hy j hj])⟩,hb⟩
  ·exact absurd h (by decide)
  ·exact absurd h (by decide)))
 clear f4 g4 s4;obtain⟨x1,hx1⟩: ∃x:Rat,x=1:=⟨_,rfl⟩;obtain⟨x2,hx2⟩: ∃x:Rat,x=2:=⟨_,rfl⟩;obtain⟨xh,hxh⟩: ∃x:Rat,x=1/2:=⟨_,rfl⟩;obtain⟨xm,hxm⟩: ∃x:Rat,x= -(1/2):=⟨_,rfl⟩
 have HO1:Hid (∀W,Calls Tryz.prog 18 #[.int .i64 1] W fun e w'=>e= .returned (rv x1)∧Below W.heap.size W w'):=Lib.hid (fun W=>by rw[hx1];exact rof2_any 1 W (by decide) (by decide))
 have HO2:Hid (∀W,Calls Tryz.prog 18 #[.int .i64 2] W fun e w'=>e= .returned (rv x2)∧Below W.heap.size W w'):=Lib.hid (fun W=>by rw[hx2];exact rof2_any 2 W (by decide) (by decide))
 have HQh:Hid (∀W,Calls Tryz.prog 22 #[rv x1,rv x2] W fun e w'=>e= .returned (.tuple #[rv xh,.bool true])∧Below W.heap.size W w'):=Lib.hid (fun W=>by rw[hx1,hx2,hxh];exact rquo2_any 1 2 W ((Sz_int (n:=1) (by decide) (by decide)).mono (by decide)) ((Sz_int (n:=2) (by decide) (by decide)).mono (by decide)) (by decide))
 have HNh:Hid (∀W,Calls Tryz.prog 21 #[rv xh] W fun e w'=>e= .returned (rv xm)∧Below W.heap.size W w'):=Lib.hid (fun W=>by rw[hxh,hxm];exact rneg2_any (1/2) W ((Sz_div (Sz_int (n:=1) (by decide) (by decide)) (Sz_int (n:=2) (by decide) (by decide)) (by decide)).mono (by decide)))
 simp only[rv] at HO1 HO2 HQh HNh
 have HS4:Hid (∀W p,PR W p 1 1 (ofM [[-1]]) (fun _=>xm) (ofL [-1])→Calls Tryz.prog 14 #[p] W fun e w'=>(∃gx gy,e= .returned (.tuple #[solV gx gy 1 1 xm,.int .i64 0])∧W.heap.size≤gx∧W.heap.size≤gy∧Row3 w' gx 1 (fun _=>q3 xh)∧Row3 w' gy 1 (fun j=>q3 (ofL [1] j)))∧Below W.heap.size W w'):=Lib.hid (by rw[hxm,hxh];exact HS4'.out)
 clear HS4';have HXh:=Lib.hid hxh;have HXm:=Lib.hid hxm;clear hx1 hx2 hxh hxm
 obtain⟨f5,g5,s5⟩:=small5.fit (by decide) (by decide)
 obtain⟨x0,hx0⟩: ∃x:Rat,x=0:=⟨_,rfl⟩
 have HS5:Hid (∀W p,PR W p 0 0 (fun _ _=>0) (fun _=>0) (fun _=>0)→Calls Tryz.prog 14 #[p] W fun e w'=>(∃gx gy,e= .returned (.tuple #[solV gx gy 0 0 x0,.int .i64 0]))∧Below W.heap.size W w'):=Lib.hid (fun W p h=>(solve_any p 0 0 _ _ _ W h (by decide) (by decide) s5 f5 g5).mono (by
  rintro e w' ⟨hb,code,T,hsol,hres⟩;obtain rfl:=sol_code hsol (.ok (ex5_ok _ _ _))
  rcases hres with⟨_,gx,gy,rfl,_⟩|⟨h,_⟩|⟨h,_⟩
  ·rw[hx0]
   exact⟨⟨gx,gy,rfl⟩,hb⟩
  ·exact absurd h (by decide)
  ·exact absurd h (by decide)))
 have HO0:Hid (∀W,Calls Tryz.prog 18 #[.int .i64 0] W fun e w'=>e= .returned (rv x0)∧Below W.heap.size W w'):=Lib.hid (fun W=>by rw[hx0];exact rof2_any 0 W (by decide) (by decide))
 simp only[rv] at HO0
 clear f5 g5 s5 hx0
 have HEh:Hid (∀W B g a c,Row3 W g 1 (fun _=>q3 xh)→Rats W B (.slice a 1 c) (raws 1 (fun _=>xh))→Calls Tryz.prog 32 #[.slice (some ⟨g,0,none⟩) 1 1,.slice a 1 c] W fun e w'=>e= .returned (.bool true)∧Below W.heap.size W w'):=Lib.hid (fun W B g a c h1 h2=>(equal_any _ _ 1 1 1 c (fun _=>xh) (fun _=>xh) W ⟨_,_,rfl,fun _=>⟨g,rfl,h1.row (fun _ _=>rfl)⟩⟩ h2.slr (by decide)).mono (by
  rintro e w' ⟨⟨r,rfl,hr⟩,hb⟩;obtain rfl:r=true:=hr.2 ⟨rfl,fun _ _=>rfl⟩
  exact⟨rfl,hb⟩))
 have HE1:Hid (∀W B g a c,Row3 W g 1 (fun j=>q3 (ofL [1] j))→Rats W B (.slice a 1 c) (raws 1 (ofL [1]))→Calls Tryz.prog 32 #[.slice (some ⟨g,0,none⟩) 1 1,.slice a 1 c] W fun e w'=>e= .returned (.bool true)∧Below W.heap.size W w'):=Lib.hid (fun W B g a c h1 h2=>(equal_any _ _ 1 1 1 c (ofL [1]) (ofL [1]) W ⟨_,_,rfl,fun _=>⟨g,rfl,h1.row (fun _ _=>rfl)⟩⟩ h2.slr (by decide)).mono (by
  rintro e w' ⟨⟨r,rfl,hr⟩,hb⟩;obtain rfl:r=true:=hr.2 ⟨rfl,fun _ _=>rfl⟩
  exact⟨rfl,hb⟩))
 go_enter Tryz.func12,Tryz.ntmps12
 obtain⟨w0,hw0,ag⟩: ∃w0,w0=w∧Below w.heap.size w w0:=⟨w,rfl,Below.refl _ _⟩;rw[←hw0];have HW0:=Lib.hid hw0;clear hw0
 have hV:Vals 3 (w0.alloc (.cells #[.int .i64 1,.int .i64 1] 3)) 0 (.slice (some ⟨w0.heap.size,0,none⟩) 2 2) [.int .i64 1,.int .i64 1]:=Vals.lit w0 (Nat.zero_le _) 3 [.int .i64 1,.int .i64 1] (by simp)
 replace ag:=ag.alloc ag.size (.cells #[.int .i64 1,.int .i64 1] 3)
 go_wp2_with fail
 generalize w0.heap.size=ga at*;generalize w0.alloc (.cells #[.int .i64 1,.int .i64 1] 3)=WBga at*
 with_reducible refine(HLa.out _ _ hV).mono ?_
 rintro e wX ⟨aa,ca,rfl,hRa,am⟩;clear hV;replace ag:=ag.tr am;clear am
 have hV:Vals 3 (wX.alloc (.cells #[.int .i64 1,.int .i64 3] 3)) 0 (.slice (some ⟨wX.heap.size,0,none⟩) 2 2) [.int .i64 1,.int .i64 3]:=Vals.lit wX (Nat.zero_le _) 3 [.int .i64 1,.int .i64 3] (by simp)
 replace ag:=ag.alloc ag.size (.cells #[.int .i64 1,.int .i64 3] 3);replace hRa:=hRa.alloc (.cells #[.int .i64 1,.int .i64 3] 3)
 go_wp2_with fail
 generalize wX.heap.size=gb at*;generalize wX.alloc (.cells #[.int .i64 1,.int .i64 3] 3)=WBgb at*
 with_reducible refine(HLb.out _ _ hV).mono ?_
 rintro e wX ⟨ab,cb,rfl,hRb,am⟩;clear hV;replace ag:=ag.tr am;replace hRa:=hRa.below am;clear am
 have hV:Vals 3 (wX.alloc (.cells #[.int .i64 1,.int .i64 0] 3)) 0 (.slice (some ⟨wX.heap.size,0,none⟩) 2 2) [.int .i64 1,.int .i64 0]:=Vals.lit wX (Nat.zero_le _) 3 [.int .i64 1,.int .i64 0] (by simp)
 replace ag:=ag.alloc ag.size (.cells #[.int .i64 1,.int .i64 0] 3);replace hRa:=hRa.alloc (.cells #[.int .i64 1,.int .i64 0] 3);replace hRb:=hRb.alloc (.cells #[.int .i64 1,.int .i64 0] 3)
 go_wp2_with fail
 generalize wX.heap.size=gc at*;generalize wX.alloc (.cells #[.int .i64 1,.int .i64 0] 3)=WBgc at*
 with_reducible refine(HLc.out _ _ hV).mono ?_
 rintro e wX ⟨ac,cc,rfl,hRc,am⟩;clear hV;replace ag:=ag.tr am;replace hRa:=hRa.below am;replace hRb:=hRb.below am;clear am
 have hM:Vals 27 (wX.alloc (.cells #[.slice aa 2 ca,.slice ab 2 cb,.slice ac 2 cc] 27)) 0 (.slice (some ⟨wX.heap.size,0,none⟩) 3 3) [.slice aa 2 ca,.slice ab 2 cb,.slice ac 2 cc]:=Vals.lit wX (Nat.zero_le _) 27 [.slice aa 2 ca,.slice ab 2 cb,.slice ac 2 cc] (by simp)
 replace ag:=ag.alloc ag.size (.cells #[.slice aa 2 ca,.slice ab 2 cb,.slice ac 2 cc] 27);replace hRa:=hRa.alloc (.cells #[.slice aa 2 ca,.slice ab 2 cb,.slice ac 2 cc] 27);replace hRb:=hRb.alloc (.cells #[.slice aa 2 ca,.slice ab 2 cb,.slice ac 2 cc] 27);replace hRc:=hRc.alloc (.cells #[.slice aa 2 ca,.slice ab 2 cb,.slice ac 2 cc] 27)
 have hV:Vals 3 ((wX.alloc (.cells #[.slice aa 2 ca,.slice ab 2 cb,.slice ac 2 cc] 27)).alloc (.cells #[.int .i64 4,.int .i64 7,.int .i64 3] 3)) 0 (.slice (some ⟨wX.heap.size+1,0,none⟩) 3 3) [.int .i64 4,.int .i64 7,.int .i64 3]:=(show(wX.alloc (.cells #[.slice aa 2 ca,.slice ab 2 cb,.slice ac 2 cc] 27)).heap.size=wX.heap.size+1 by simp)▸Vals.lit (wX.alloc (.cells #[.slice aa 2 ca,.slice ab 2 cb,.slice ac 2 cc] 27)) (Nat.zero_le _) 3 [.int .i64 4,.int .i64 7,.int .i64 3] (by simp)
 replace ag:=ag.alloc ag.size (.cells #[.int .i64 4,.int .i64 7,.int .i64 3] 3);replace hRa:=hRa.alloc (.cells #[.int .i64 4,.int .i64 7,.int .i64 3] 3);replace hRb:=hRb.alloc (.cells #[.int .i64 4,.int .i64 7,.int .i64 3] 3);replace hRc:=hRc.alloc (.cells #[.int .i64 4,.int .i64 7,.int .i64 3] 3);replace hM:=hM.alloc (.cells #[.int .i64 4,.int .i64 7,.int .i64 3] 3)
 go_wp2_with fail
 generalize wX.heap.size+1=gd at*;generalize wX.heap.size=gm at*;generalize (wX.alloc (.cells #[.slice aa 2 ca,.slice ab 2 cb,.slice ac 2 cc] 27)).alloc (.cells #[.int .i64 4,.int .i64 7,.int .i64 3] 3)=WBgd at*
 with_reducible refine(HLd.out _ _ hV).mono ?_
 rintro e wX ⟨ad,cd,rfl,hRd,am⟩;clear hV;replace ag:=ag.tr am;replace hRa:=hRa.below am;replace hRb:=hRb.below am;replace hRc:=hRc.below am;replace hM:=hM.below am;clear am
 have hV:Vals 3 (wX.alloc (.cells #[.int .i64 3,.int .i64 2] 3)) 0 (.slice (some ⟨wX.heap.size,0,none⟩) 2 2) [.int .i64 3,.int .i64 2]:=Vals.lit wX (Nat.zero_le _) 3 [.int .i64 3,.int .i64 2] (by simp)
 replace ag:=ag.alloc ag.size (.cells #[.int .i64 3,.int .i64 2] 3);replace hRa:=hRa.alloc (.cells #[.int .i64 3,.int .i64 2] 3);replace hRb:=hRb.alloc (.cells #[.int .i64 3,.int .i64 2] 3);replace hRc:=hRc.alloc (.cells #[.int .i64 3,.int .i64 2] 3);replace hM:=hM.alloc (.cells #[.int .i64 3,.int .i64 2] 3);replace hRd:=hRd.alloc (.cells #[.int .i64 3,.int .i64 2] 3)
 go_wp2_with fail
 generalize wX.heap.size=ge at*;generalize wX.alloc (.cells #[.int .i64 3,.int .i64 2] 3)=WBge at*
 with_reducible refine(HLe.out _ _ hV).mono ?_
 rintro e wX ⟨ae,ce,rfl,hRe,am⟩;clear hV;replace ag:=ag.tr am;replace hRa:=hRa.below am;replace hRb:=hRb.below am;replace hRc:=hRc.below am;replace hM:=hM.below am;replace hRd:=hRd.below am;clear am
 have hP1:PR wX (.agg #[.slice (some ⟨gm,0,none⟩) 3 3,.slice ad 3 cd,.slice ae 2 ce]) 3 2 (ofM mA) (ofL [4,7,3]) (ofL [3,2]):=pr_of hM rfl (fun i hi=>by
  have:i=0∨i=1∨i=2:=by omega
  rcases this with rfl|rfl|rfl
  ·exact hRa.slr
  ·exact hRb.slr
  ·exact hRc.slr) hRd.slr hRe.slr
 clear hM hRa hRb hRc hRd hRe;have kgp:=ag.size;replace ag:=ag.alloc ag.size (.cells #[.slice (some ⟨gm,0,none⟩) 3 3,.slice ad 3 cd,.slice ae 2 ce] 29);replace hP1:=hP1.alloc (.cells #[.slice (some ⟨gm,0,none⟩) 3 3,.slice ad 3 cd,.slice ae 2 ce] 29);have bp:Rx (wX.alloc (.cells #[.slice (some ⟨gm,0,none⟩) 3 3,.slice ad 3 cd,.slice ae 2 ce] 29)) wX.heap.size [.slice (some ⟨gm,0,none⟩) 3 3,.slice ad 3 cd,.slice ae 2 ce]:=Rx.new wX _ rfl [.slice (some ⟨gm,0,none⟩) 3 3,.slice ad 3 cd,.slice ae 2 ce] 29
 go_upto_region 2 with fail
 generalize wX.heap.size=gp at*;generalize wX.alloc (.cells #[.slice (some ⟨gm,0,none⟩) 3 3,.slice ad 3 cd,.slice ae 2 ce] 29)=Wgp at*;have⟨cp0,fp0,cp1,fp1,cgp2,fp2⟩:=bp.all3
 go_wp2_with fail
 clear cp0 fp0 cp1 fp1 cgp2 fp2
 with_reducible refine(HS1.out _ _ hP1).mono ?_
 rintro e wX ⟨am,code,T,hsol,hres⟩;clear HS1;replace ag:=ag.tr am;replace bp:=bp.below am;replace hP1:=hP1.below am;clear am;obtain rfl:=sol_code hsol (.ok ex1_ok)
 rcases hres with⟨_,hres⟩|⟨h,_⟩|⟨h,_⟩
 rotate_left 1
 ·exact absurd h (by decide)
 ·exact absurd h (by decide)
 obtain⟨gx,gy,rfl,_,_,_,hX,hY⟩:=hres;have hcert:=hsol.cert;obtain⟨hv,hx,hy⟩:=ex1_all hcert;have hway:=hsol.way.1;rw[hv] at hcert;rw[hv,←HX11.out]
 have HEx:Hid (∀W B a c,Row3 W gx 2 (fun j=>q3 (Lp.bsol 3 T j))→Rats W B (.slice a 2 c) (raws 2 (ofL [3,1]))→Calls Tryz.prog 32 #[.slice (some ⟨gx,0,none⟩) 2 2,.slice a 2 c] W fun e w'=>e= .returned (.bool true)∧Below W.heap.size W w'):=Lib.hid (fun W B a c h1 h2=>(equal_any _ _ 2 2 2 c (Lp.bsol 3 T) (ofL [3,1]) W ⟨_,_,rfl,fun _=>⟨gx,rfl,h1.row (fun _ _=>rfl)⟩⟩ h2.slr (by decide)).mono (by
  rintro e w' ⟨⟨r,rfl,hr⟩,hb⟩;obtain rfl:r=true:=hr.2 ⟨rfl,hx⟩
  exact⟨rfl,hb⟩))
 have HEy:Hid (∀W B a c,Row3 W gy 3 (fun j=>q3 (Lp.ydual 3 2 (ofL [3,2]) T j))→Rats W B (.slice a 3 c) (raws 3 (ofL [2,0,1]))→Calls Tryz.prog 32 #[.slice (some ⟨gy,0,none⟩) 3 3,.slice a 3 c] W fun e w'=>e= .returned (.bool true)∧Below W.heap.size W w'):=Lib.hid (fun W B a c h1 h2=>(equal_any _ _ 3 3 3 c (Lp.ydual 3 2 (ofL [3,2]) T) (ofL [2,0,1]) W ⟨_,_,rfl,fun _=>⟨gy,rfl,h1.row (fun _ _=>rfl)⟩⟩ h2.slr (by decide)).mono (by
  rintro e w' ⟨⟨r,rfl,hr⟩,hb⟩;obtain rfl:r=true:=hr.2 ⟨rfl,hy⟩
  exact⟨rfl,hb⟩))
 have HCk:Hid (∀W,PR W (.agg #[.slice (some ⟨gm,0,none⟩) 3 3,.slice ad 3 cd,.slice ae 2 ce]) 3 2 (ofM mA) (ofL [4,7,3]) (ofL [3,2])→Row3 W gx 2 (fun j=>q3 (Lp.bsol 3 T j))→Row3 W gy 3 (fun j=>q3 (Lp.ydual 3 2 (ofL [3,2]) T j))→Calls Tryz.prog 17 #[.agg #[.slice (some ⟨gm,0,none⟩) 3 3,.slice ad 3 cd,.slice ae 2 ce],.agg #[.slice (some ⟨gx,0,none⟩) 2 2,.slice (some ⟨gy,0,none⟩) 3 3,.bool (decide (x11.num<0)),.string (nb x11.num.natAbs),.string (nb x11.den)]] W fun e w'=>e= .returned (.bool true)∧Below W.heap.size W w'):=Lib.hid (fun W h h1 h2=>(check_any _ 3 2 (ofM mA) (ofL [4,7,3]) (ofL [3,2]) _ 2 2 (Lp.bsol 3 T) _ 3 3 (Lp.ydual 3 2 (ofL [3,2]) T) x11 W h (SlR.o ⟨_,_,rfl,fun _=>⟨gx,rfl,h1.row (fun _ _=>rfl)⟩⟩) (SlR.o ⟨_,_,rfl,fun _=>⟨gy,rfl,h2.row (fun _ _=>rfl)⟩⟩) (by decide) (by decide) (by decide) (by decide) HZ1.out.2 (fun j _=>Sz_bsol HZ1.out.1 hway j) (fun i hi=>by rw[hy i hi];exact(Sz_Q (D:=1) (H:=10) (s:=4) (k:=8) (by decide) (ofL_Q (by decide) i) (by decide) (by decide) (by decide)).mono (by decide)) (by rw[HX11.out];exact(Sz_int (n:=11) (by decide) (by decide)).mono (by decide))).mono (by
  rintro e w' ⟨⟨r,rfl,hr⟩,hb⟩
  obtain rfl:r=true:=hr.2 ⟨rfl,rfl,by rw[HX11.out];exact hcert⟩
  exact⟨rfl,hb⟩))
 clear hsol hcert hx hy hway hv;unfold solV;have kgs:=ag.size;replace ag:=ag.alloc ag.size (.cells #[.slice (some ⟨gx,0,none⟩) 2 2,.slice (some ⟨gy,0,none⟩) 3 3,.bool (decide (x11.num<0)),.string (nb x11.num.natAbs),.string (nb x11.den)] 35);have dgp:=bp.lt;replace bp:=bp.alloc (.cells #[.slice (some ⟨gx,0,none⟩) 2 2,.slice (some ⟨gy,0,none⟩) 3 3,.bool (decide (x11.num<0)),.string (nb x11.num.natAbs),.string (nb x11.den)] 35)
 replace hP1:=hP1.alloc (.cells #[.slice (some ⟨gx,0,none⟩) 2 2,.slice (some ⟨gy,0,none⟩) 3 3,.bool (decide (x11.num<0)),.string (nb x11.num.natAbs),.string (nb x11.den)] 35);replace hX:=hX.alloc (.cells #[.slice (some ⟨gx,0,none⟩) 2 2,.slice (some ⟨gy,0,none⟩) 3 3,.bool (decide (x11.num<0)),.string (nb x11.num.natAbs),.string (nb x11.den)] 35);replace hY:=hY.alloc (.cells #[.slice (some ⟨gx,0,none⟩) 2 2,.slice (some ⟨gy,0,none⟩) 3 3,.bool (decide (x11.num<0)),.string (nb x11.num.natAbs),.string (nb x11.den)] 35)
 have bs:Rx (wX.alloc (.cells #[.slice (some ⟨gx,0,none⟩) 2 2,.slice (some ⟨gy,0,none⟩) 3 3,.bool (decide (x11.num<0)),.string (nb x11.num.natAbs),.string (nb x11.den)] 35)) wX.heap.size [.slice (some ⟨gx,0,none⟩) 2 2,.slice (some ⟨gy,0,none⟩) 3 3,.bool (decide (x11.num<0)),.string (nb x11.num.natAbs),.string (nb x11.den)]:=Rx.new wX _ rfl [.slice (some ⟨gx,0,none⟩) 2 2,.slice (some ⟨gy,0,none⟩) 3 3,.bool (decide (x11.num<0)),.string (nb x11.num.natAbs),.string (nb x11.den)] 35
 go_upto_region 3 with fail
 generalize wX.heap.size=gs at*;generalize wX.alloc (.cells #[.slice (some ⟨gx,0,none⟩) 2 2,.slice (some ⟨gy,0,none⟩) 3 3,.bool (decide (x11.num<0)),.string (nb x11.num.natAbs),.string (nb x11.den)] 35)=Wgs at*
 have ngpgs:gp≠gs:=by omega
 clear dgp;replace ag:=ag.drew;replace bp:=bp.drew;replace bs:=bs.drew;replace hP1:=hP1.drew;replace hX:=hX.drew;replace hY:=hY.drew
 refine wp_schH (S:=(fun w'=>w'.cell? ⟨gp,0,none⟩=some (.slice (some ⟨gm,0,none⟩) 3 3)∧w'.cell? ⟨gp,1,none⟩=some (.slice ad 3 cd)∧w'.cell? ⟨gp,2,none⟩=some (.slice ae 2 ce)∧w'.cell? ⟨gs,0,none⟩=some (.slice (some ⟨gx,0,none⟩) 2 2)∧w'.cell? ⟨gs,1,none⟩=some (.slice (some ⟨gy,0,none⟩) 3 3)∧w'.cell? ⟨gs,2,none⟩=some (.bool (decide (x11.num<0)))∧w'.cell? ⟨gs,3,none⟩=some (.string (nb x11.num.natAbs))∧w'.cell? ⟨gs,4,none⟩=some (.string (nb x11.den)))) (ps 0 5 (.c 5 (.c 6 (.c 7 (ps 8 5 (.c 13 (ps 14 5 (.c 19 (.c 20 (.c 21 (ps 22 5 (.c 27 (ps 28 2 .e))))))))))))) [3,2,1] fun A WD hA aq=>?_
 simp only[←aq.out] at ag bp bs hP1 hX hY
 clear aq
 refine⟨?_,fun ap=>?_⟩
 ·try dsimp only
  with_reducible exact qz35 bp bs
 repeat(refine isP ?_;refine tkO ?_)
 refine acO fun aa KK hF hK=>?_
 dsimp only[Fa] at hF
 have hV:Vals 3 (WD.alloc (.cells #[.int .i64 3,.int .i64 1] 3)) 0 (.slice (some ⟨WD.heap.size,0,none⟩) 2 2) [.int .i64 3,.int .i64 1]:=Vals.lit WD (Nat.zero_le _) 3 [.int .i64 3,.int .i64 1] (by simp)
 replace ag:=ag.alloc ag.size (.cells #[.int .i64 3,.int .i64 1] 3);replace bp:=bp.alloc (.cells #[.int .i64 3,.int .i64 1] 3);replace bs:=bs.alloc (.cells #[.int .i64 3,.int .i64 1] 3);replace hP1:=hP1.alloc (.cells #[.int .i64 3,.int .i64 1] 3);replace hX:=hX.alloc (.cells #[.int .i64 3,.int .i64 1] 3);replace hY:=hY.alloc (.cells #[.int .i64 3,.int .i64 1] 3)
 go_simp
 generalize WD.heap.size=gf at*;generalize WD.alloc (.cells #[.int .i64 3,.int .i64 1] 3)=WBgf at*
 (first|refine hK.out _ _ ?_ (fun ap=>?_)|(go_wp2_with fail;refine hK.out _ _ ?_ (fun ap=>?_)))
 ·try dsimp only
  with_reducible exact qz35 bp bs
 clear hK KK hF aa
 refine caO (HLf.out _ _ hV) fun e wX hz=>?_
 obtain⟨af,cf,rfl,hRf,am⟩:=hz;clear hV;replace ag:=ag.tr am;replace bp:=bp.below am;replace bs:=bs.below am;replace hP1:=hP1.below am;replace hX:=hX.below am;replace hY:=hY.below am;clear am
 refine⟨_,rfl,?_,?_⟩
 ·try dsimp only
  with_reducible exact qz35 bp bs
 refine caO (HEx.out _ _ _ _ hX hRf) fun e wX hz=>?_
 obtain⟨rfl,am⟩:=hz;replace ag:=ag.tr am;replace bp:=bp.below am;replace bs:=bs.below am;replace hP1:=hP1.below am;replace hX:=hX.below am;replace hY:=hY.below am;replace hRf:=hRf.below am;clear am;clear hRf
 refine⟨_,rfl,?_,?_⟩
 ·try dsimp only
  with_reducible exact qz35 bp bs
 repeat(refine isP ?_;refine tkO ?_)
 refine caO (HO11.out _) fun e wX hz=>?_
 obtain⟨rfl,am⟩:=hz;replace ag:=ag.tr am;replace bp:=bp.below am;replace bs:=bs.below am;replace hP1:=hP1.below am;replace hX:=hX.below am;replace hY:=hY.below am;clear am
 refine⟨_,rfl,?_,?_⟩
 ·try dsimp only
  with_reducible exact qz35 bp bs
 repeat(refine isP ?_;refine tkO ?_)
 refine acO fun aa KK hF hK=>?_
 dsimp only[Fa] at hF
 have hV:Vals 3 (wX.alloc (.cells #[.int .i64 2,.int .i64 0,.int .i64 1] 3)) 0 (.slice (some ⟨wX.heap.size,0,none⟩) 3 3) [.int .i64 2,.int .i64 0,.int .i64 1]:=Vals.lit wX (Nat.zero_le _) 3 [.int .i64 2,.int .i64 0,.int .i64 1] (by simp)
 replace ag:=ag.alloc ag.size (.cells #[.int .i64 2,.int .i64 0,.int .i64 1] 3);replace bp:=bp.alloc (.cells #[.int .i64 2,.int .i64 0,.int .i64 1] 3);replace bs:=bs.alloc (.cells #[.int .i64 2,.int .i64 0,.int .i64 1] 3);replace hP1:=hP1.alloc (.cells #[.int .i64 2,.int .i64 0,.int .i64 1] 3);replace hX:=hX.alloc (.cells #[.int .i64 2,.int .i64 0,.int .i64 1] 3);replace hY:=hY.alloc (.cells #[.int .i64 2,.int .i64 0,.int .i64 1] 3)
 go_simp
 generalize wX.heap.size=gh at*;generalize wX.alloc (.cells #[.int .i64 2,.int .i64 0,.int .i64 1] 3)=WBgh at*
 (first|refine hK.out _ _ ?_ (fun ap=>?_)|(go_wp2_with fail;refine hK.out _ _ ?_ (fun ap=>?_)))
 ·try dsimp only
  with_reducible exact qz35 bp bs
 clear hK KK hF aa
 refine caO (HLh.out _ _ hV) fun e wX hz=>?_
 obtain⟨ah,ch,rfl,hRh,am⟩:=hz;clear hV;replace ag:=ag.tr am;replace bp:=bp.below am;replace bs:=bs.below am;replace hP1:=hP1.below am;replace hX:=hX.below am;replace hY:=hY.below am;clear am
 refine⟨_,rfl,?_,?_⟩
 ·try dsimp only
  with_reducible exact qz35 bp bs
 refine caO (HEy.out _ _ _ _ hY hRh) fun e wX hz=>?_
 obtain⟨rfl,am⟩:=hz;replace ag:=ag.tr am;replace bp:=bp.below am;replace bs:=bs.below am;replace hP1:=hP1.below am;replace hX:=hX.below am;replace hY:=hY.below am;replace hRh:=hRh.below am;clear am;clear hRh
 refine⟨_,rfl,?_,?_⟩
 ·try dsimp only
  with_reducible exact qz35 bp bs
 repeat(refine isP ?_;refine tkO ?_)
 refine caO (HCk.out _ hP1 hX hY) fun e wX hz=>?_
 obtain⟨rfl,am⟩:=hz;replace ag:=ag.tr am;replace bp:=bp.below am;replace bs:=bs.below am;replace hP1:=hP1.below am;replace hX:=hX.below am;replace hY:=hY.below am;clear am
 refine⟨_,rfl,?_,?_⟩
 ·try dsimp only
  with_reducible exact qz35 bp bs
 repeat(refine isP ?_;refine tkO ?_)
 refine enO hA ?_
 clear hA
 go_upto_region 5 with fail
 clear bp bs hP1 hX hY HEx HEy HCk HO11 HLa HLb HLc HLd HLe HLf HLh HZ1 HX11
 have hV:Vals 3 (wX.alloc (.cells #[.int .i64 1] 3)) 0 (.slice (some ⟨wX.heap.size,0,none⟩) 1 1) [.int .i64 1]:=Vals.lit wX (Nat.zero_le _) 3 [.int .i64 1] (by simp)
 replace ag:=ag.alloc ag.size (.cells #[.int .i64 1] 3)
 go_wp2_with fail
 generalize wX.heap.size=gi at*;generalize wX.alloc (.cells #[.int .i64 1] 3)=WBgi at*
 with_reducible refine(HLi.out _ _ hV).mono ?_
 rintro e wX ⟨ai,ci,rfl,hRi,am⟩;clear hV;replace ag:=ag.tr am;clear am
 have hM:Vals 27 (wX.alloc (.cells #[.slice ai 1 ci] 27)) 0 (.slice (some ⟨wX.heap.size,0,none⟩) 1 1) [.slice ai 1 ci]:=Vals.lit wX (Nat.zero_le _) 27 [.slice ai 1 ci] (by simp)
 replace ag:=ag.alloc ag.size (.cells #[.slice ai 1 ci] 27);replace hRi:=hRi.alloc (.cells #[.slice ai 1 ci] 27)
 have hV:Vals 3 ((wX.alloc (.cells #[.slice ai 1 ci] 27)).alloc (.cells #[.int .i64 (-1)] 3)) 0 (.slice (some ⟨wX.heap.size+1,0,none⟩) 1 1) [.int .i64 (-1)]:=(show(wX.alloc (.cells #[.slice ai 1 ci] 27)).heap.size=wX.heap.size+1 by simp)▸Vals.lit (wX.alloc (.cells #[.slice ai 1 ci] 27)) (Nat.zero_le _) 3 [.int .i64 (-1)] (by simp)
 replace ag:=ag.alloc ag.size (.cells #[.int .i64 (-1)] 3);replace hRi:=hRi.alloc (.cells #[.int .i64 (-1)] 3);replace hM:=hM.alloc (.cells #[.int .i64 (-1)] 3)
 go_wp2_with fail
 generalize wX.heap.size+1=gj at*;generalize wX.heap.size=gmi at*;generalize (wX.alloc (.cells #[.slice ai 1 ci] 27)).alloc (.cells #[.int .i64 (-1)] 3)=WBgj at*
 with_reducible refine(HLj.out _ _ hV).mono ?_
 rintro e wX ⟨aj,cj,rfl,hRj,am⟩;clear hV;replace ag:=ag.tr am;replace hRi:=hRi.below am;replace hM:=hM.below am;clear am
 have hV:Vals 3 (wX.alloc (.cells #[.int .i64 1] 3)) 0 (.slice (some ⟨wX.heap.size,0,none⟩) 1 1) [.int .i64 1]:=Vals.lit wX (Nat.zero_le _) 3 [.int .i64 1] (by simp)
 replace ag:=ag.alloc ag.size (.cells #[.int .i64 1] 3);replace hRi:=hRi.alloc (.cells #[.int .i64 1] 3);replace hM:=hM.alloc (.cells #[.int .i64 1] 3);replace hRj:=hRj.alloc (.cells #[.int .i64 1] 3)
 go_wp2_with fail
 generalize wX.heap.size=gk at*;generalize wX.alloc (.cells #[.int .i64 1] 3)=WBgk at*
 with_reducible refine(HLk.out _ _ hV).mono ?_
 rintro e wX ⟨ak,ck,rfl,hRk,am⟩;clear hV;replace ag:=ag.tr am;replace hRi:=hRi.below am;replace hM:=hM.below am;replace hRj:=hRj.below am;clear am
 have hP:PR wX (.agg #[.slice (some ⟨gmi,0,none⟩) 1 1,.slice aj 1 cj,.slice ak 1 ck]) 1 1 (ofM [[1]]) (ofL [-1]) (ofL [1]):=pr_of hM rfl (fun i hi=>by
  obtain rfl:i=0:=by omega
  exact hRi.slr) hRj.slr hRk.slr
 clear hM hRi hRj hRk
 go_wp2_with fail
 with_reducible refine(HS2.out _ _ hP).mono ?_
 rintro e wX ⟨rfl,am⟩;clear hP;replace ag:=ag.tr am;clear am;unfold solZ;have kg4:=ag.size;replace ag:=ag.alloc ag.size (.cells #[.slice none 0 0,.slice none 0 0,.bool false,.string ⟨#[]⟩,.string ⟨#[]⟩] 35);have b4:Rx (wX.alloc (.cells #[.slice none 0 0,.slice none 0 0,.bool false,.string ⟨#[]⟩,.string ⟨#[]⟩] 35)) wX.heap.size [.slice none 0 0,.slice none 0 0,.bool false,.string ⟨#[]⟩,.string ⟨#[]⟩]:=Rx.new wX _ rfl [.slice none 0 0,.slice none 0 0,.bool false,.string ⟨#[]⟩,.string ⟨#[]⟩] 35
 go_upto_region 6 with fail
 generalize wX.heap.size=g4 at*;generalize wX.alloc (.cells #[.slice none 0 0,.slice none 0 0,.bool false,.string ⟨#[]⟩,.string ⟨#[]⟩] 35)=Wg4 at*;clear b4 kg4 HLi HLj HLk HS2
 have hV:Vals 3 (Wg4.alloc (.cells #[.int .i64 (-1)] 3)) 0 (.slice (some ⟨Wg4.heap.size,0,none⟩) 1 1) [.int .i64 (-1)]:=Vals.lit Wg4 (Nat.zero_le _) 3 [.int .i64 (-1)] (by simp)
 replace ag:=ag.alloc ag.size (.cells #[.int .i64 (-1)] 3)
 go_wp2_with fail
 generalize Wg4.heap.size=gl at*;generalize Wg4.alloc (.cells #[.int .i64 (-1)] 3)=WBgl at*
 with_reducible refine(HLl.out _ _ hV).mono ?_
 rintro e wX ⟨al,cl,rfl,hRl,am⟩;clear hV;replace ag:=ag.tr am;clear am
 have hM:Vals 27 (wX.alloc (.cells #[.slice al 1 cl] 27)) 0 (.slice (some ⟨wX.heap.size,0,none⟩) 1 1) [.slice al 1 cl]:=Vals.lit wX (Nat.zero_le _) 27 [.slice al 1 cl] (by simp)
 replace ag:=ag.alloc ag.size (.cells #[.slice al 1 cl] 27);replace hRl:=hRl.alloc (.cells #[.slice al 1 cl] 27)
 have hV:Vals 3 ((wX.alloc (.cells #[.slice al 1 cl] 27)).alloc (.cells #[.int .i64 1] 3)) 0 (.slice (some ⟨wX.heap.size+1,0,none⟩) 1 1) [.int .i64 1]:=(show(wX.alloc (.cells #[.slice al 1 cl] 27)).heap.size=wX.heap.size+1 by simp)▸Vals.lit (wX.alloc (.cells #[.slice al 1 cl] 27)) (Nat.zero_le _) 3 [.int .i64 1] (by simp)
 replace ag:=ag.alloc ag.size (.cells #[.int .i64 1] 3);replace hRl:=hRl.alloc (.cells #[.int .i64 1] 3);replace hM:=hM.alloc (.cells #[.int .i64 1] 3)
 go_wp2_with fail
 generalize wX.heap.size+1=gn at*;generalize wX.heap.size=gml at*;generalize (wX.alloc (.cells #[.slice al 1 cl] 27)).alloc (.cells #[.int .i64 1] 3)=WBgn at*
 with_reducible refine(HLn.out _ _ hV).mono ?_
 rintro e wX ⟨an,cn,rfl,hRn,am⟩;clear hV;replace ag:=ag.tr am;replace hRl:=hRl.below am;replace hM:=hM.below am;clear am
 have hV:Vals 3 (wX.alloc (.cells #[.int .i64 1] 3)) 0 (.slice (some ⟨wX.heap.size,0,none⟩) 1 1) [.int .i64 1]:=Vals.lit wX (Nat.zero_le _) 3 [.int .i64 1] (by simp)
 replace ag:=ag.alloc ag.size (.cells #[.int .i64 1] 3);replace hRl:=hRl.alloc (.cells #[.int .i64 1] 3);replace hM:=hM.alloc (.cells #[.int .i64 1] 3);replace hRn:=hRn.alloc (.cells #[.int .i64 1] 3)
 go_wp2_with fail
 generalize wX.heap.size=go at*;generalize wX.alloc (.cells #[.int .i64 1] 3)=WBgo at*
 with_reducible refine(HLo.out _ _ hV).mono ?_
 rintro e wX ⟨ao,co,rfl,hRo,am⟩;clear hV;replace ag:=ag.tr am;replace hRl:=hRl.below am;replace hM:=hM.below am;replace hRn:=hRn.below am;clear am
 have hP:PR wX (.agg #[.slice (some ⟨gml,0,none⟩) 1 1,.slice an 1 cn,.slice ao 1 co]) 1 1 (ofM [[-1]]) (ofL [1]) (ofL [1]):=pr_of hM rfl (fun i hi=>by
  obtain rfl:i=0:=by omega
  exact hRl.slr) hRn.slr hRo.slr
 clear hM hRl hRn hRo
 go_wp2_with fail
 with_reducible refine(HS3.out _ _ hP).mono ?_
 rintro e wX ⟨rfl,am⟩;clear hP;replace ag:=ag.tr am;clear am;unfold solZ;have kg6:=ag.size;replace ag:=ag.alloc ag.size (.cells #[.slice none 0 0,.slice none 0 0,.bool false,.string ⟨#[]⟩,.string ⟨#[]⟩] 35);have b6:Rx (wX.alloc (.cells #[.slice none 0 0,.slice none 0 0,.bool false,.string ⟨#[]⟩,.string ⟨#[]⟩] 35)) wX.heap.size [.slice none 0 0,.slice none 0 0,.bool false,.string ⟨#[]⟩,.string ⟨#[]⟩]:=Rx.new wX _ rfl [.slice none 0 0,.slice none 0 0,.bool false,.string ⟨#[]⟩,.string ⟨#[]⟩] 35
 go_upto_region 7 with fail
 generalize wX.heap.size=g6 at*;generalize wX.alloc (.cells #[.slice none 0 0,.slice none 0 0,.bool false,.string ⟨#[]⟩,.string ⟨#[]⟩] 35)=Wg6 at*;clear b6 kg6 HLn HLo HS3
 go_wp2_with fail
 with_reducible refine(HO1.out _).mono ?_
 rintro e wZ ⟨rfl,am⟩;replace ag:=ag.tr am;clear am
 go_wp2_with fail
 with_reducible refine(HO2.out _).mono ?_
 rintro e wZ ⟨rfl,am⟩;replace ag:=ag.tr am;clear am
 go_wp2_with fail
 with_reducible refine(HQh.out _).mono ?_
 rintro e wZ ⟨rfl,am⟩;replace ag:=ag.tr am;clear am;have kg8:=ag.size;replace ag:=ag.alloc ag.size (.cells #[.bool (decide (xh.num<0)),.string (nb xh.num.natAbs),.string (nb xh.den)] 33);have b8:Rx (wZ.alloc (.cells #[.bool (decide (xh.num<0)),.string (nb xh.num.natAbs),.string (nb xh.den)] 33)) wZ.heap.size [.bool (decide (xh.num<0)),.string (nb xh.num.natAbs),.string (nb xh.den)]:=Rx.new wZ _ rfl [.bool (decide (xh.num<0)),.string (nb xh.num.natAbs),.string (nb xh.den)] 33
 go_upto_region 8 with fail
 generalize wZ.heap.size=g8 at*;generalize wZ.alloc (.cells #[.bool (decide (xh.num<0)),.string (nb xh.num.natAbs),.string (nb xh.den)] 33)=Wg8 at*;have⟨cg80,fg80,cg81,fg81,cg82,fg82⟩:=b8.all3
 go_wp2_with fail
 clear cg80 fg80 cg81 fg81 cg82 fg82
 with_reducible refine(HNh.out _).mono ?_
 rintro e wZ ⟨rfl,am⟩;replace ag:=ag.tr am;replace b8:=b8.below am;clear am;have kg10:=ag.size;replace ag:=ag.alloc ag.size (.cells #[.bool (decide (xm.num<0)),.string (nb xm.num.natAbs),.string (nb xm.den)] 33);have dg8:=b8.lt;replace b8:=b8.alloc (.cells #[.bool (decide (xm.num<0)),.string (nb xm.num.natAbs),.string (nb xm.den)] 33)
 have b10:Rx (wZ.alloc (.cells #[.bool (decide (xm.num<0)),.string (nb xm.num.natAbs),.string (nb xm.den)] 33)) wZ.heap.size [.bool (decide (xm.num<0)),.string (nb xm.num.natAbs),.string (nb xm.den)]:=Rx.new wZ _ rfl [.bool (decide (xm.num<0)),.string (nb xm.num.natAbs),.string (nb xm.den)] 33
 go_upto_region 9 with fail
 generalize wZ.heap.size=g10 at*;generalize wZ.alloc (.cells #[.bool (decide (xm.num<0)),.string (nb xm.num.natAbs),.string (nb xm.den)] 33)=Wg10 at*
 have ng8g10:g8≠g10:=by omega
 clear dg8
 skip
 refine wp_region_inv (a:=?a0) (by kernel_rfl) (by kernel_rfl) (InvA ?a0 [95,96,97,98,99,100,101,102,103,94,104,105,11,12] (fun L V W=>J9 w g8 g10 xh xm L V W)) ?_ ?_ ?_
 ·exact InvA.start (fun V=>J9.start ag.drew b8.drew b10.drew)
 ·clear ag b8 b10
  rintro i o L a W K ho hL hdep ⟨V,rfl,hJ⟩ hK;have hK:=Lib.hid hK;have hi:i<15:=(Array.getElem?_eq_some_iff.1 ho).1
  rcases(by omega:i=0∨i=1∨i=2∨i=3∨i=4∨i=5∨i=6∨i=7∨i=8∨i=9∨i=10∨i=11∨i=12∨i=13∨i=14) with rfl|rfl|rfl|rfl|rfl|rfl|rfl|rfl|rfl|rfl|rfl|rfl|rfl|rfl|rfl
  ·simp only[List.getElem?_toArray,List.getElem?_cons_zero,Option.some.injEq] at ho
   subst ho;have hb:=(Below.refl W.heap.size W).alloc (Nat.le_refl _) (.cells #[.int .i64 (-1)] 3)
   have hV:Vals 3 (W.alloc (.cells #[.int .i64 (-1)] 3)) 0 (.slice (some ⟨W.heap.size,0,none⟩) 1 1) [.int .i64 (-1)]:=Vals.lit W (Nat.zero_le _) 3 [.int .i64 (-1)] (by simp)
   clear hdep
   simp only[setAll,List.foldl_cons,List.foldl_nil,List.setIfInBounds_toArray,List.set_cons_zero,List.set_cons_succ]
   go_simp
   refine hK.out _ _ ⟨upd V 95 (.slice (some ⟨W.heap.size,0,none⟩) 1 1),(by simp only[setAll,List.foldl_cons,List.foldl_nil,List.setIfInBounds_toArray,List.set_cons_zero,List.set_cons_succ];rfl),(hJ.below hb).s0 hV⟩
  ·simp only[List.getElem?_toArray,List.getElem?_cons_succ,List.getElem?_cons_zero,Option.some.injEq] at ho
   subst ho
   have d0:L 0=true:=hdep ⟨0,.data⟩ (by simp) rfl
   have h13:=hJ.not13 (k:=1) (by decide) (by decide) hL
   have hV:=hJ.f0 h13 d0;clear hdep
   simp only[setAll,List.foldl_cons,List.foldl_nil,List.setIfInBounds_toArray,List.set_cons_zero,List.set_cons_succ]
   go_simp
   with_reducible refine(HLl.out _ _ hV).mono ?_
   rintro e W2 ⟨a2,c2,rfl,hR,hb⟩
   refine hK.out _ _ ⟨upd V 96 (.slice a2 1 c2),(by simp only[setAll,List.foldl_cons,List.foldl_nil,List.setIfInBounds_toArray,List.set_cons_zero,List.set_cons_succ];rfl),(hJ.below hb).s1 ⟨a2,c2,rfl,hR.slr⟩⟩
  ·simp only[List.getElem?_toArray,List.getElem?_cons_succ,List.getElem?_cons_zero,Option.some.injEq] at ho
   subst ho
   have d1:L 1=true:=hdep ⟨1,.data⟩ (by simp) rfl
   have h13:=hJ.not13 (k:=2) (by decide) (by decide) hL
   obtain⟨a2,c2,e,hs⟩:=hJ.f1 h13 d1;have hb:=(Below.refl W.heap.size W).alloc (Nat.le_refl _) (.cells #[.slice a2 1 c2] 27)
   have hM:Vals 27 (W.alloc (.cells #[.slice a2 1 c2] 27)) 0 (.slice (some ⟨W.heap.size,0,none⟩) 1 1) [.slice a2 1 c2]:=Vals.lit W (Nat.zero_le _) 27 [.slice a2 1 c2] (by simp)
   have hm:=mat_of (n:=1) (A:=ofM [[-1]]) hM rfl (fun i hi=>by
    obtain rfl:i=0:=by omega
    exact hs.below hb)
   clear hdep hM hs
   simp only[setAll,List.foldl_cons,List.foldl_nil,List.setIfInBounds_toArray,List.set_cons_zero,List.set_cons_succ]
   go_simp
   refine hK.out _ _ ⟨upd V 97 (.slice (some ⟨W.heap.size,0,none⟩) 1 1),(by simp only[setAll,List.foldl_cons,List.foldl_nil,List.setIfInBounds_toArray,List.set_cons_zero,List.set_cons_succ];first|rfl|(rw[←e];rfl)),(hJ.below hb).s2 ⟨_,rfl,hm⟩⟩
  ·simp only[List.getElem?_toArray,List.getElem?_cons_succ,List.getElem?_cons_zero,Option.some.injEq] at ho
   subst ho;have c0:=hJ.b10.at 0 rfl;have c1:=hJ.b10.at 1 rfl;have c2:=hJ.b10.at 2 rfl;clear hdep
   simp only[setAll,List.foldl_cons,List.foldl_nil,List.setIfInBounds_toArray,List.set_cons_zero,List.set_cons_succ]
   go_simp
   refine hK.out _ _ ⟨upd V 98 (rv xm),(by simp only[setAll,List.foldl_cons,List.foldl_nil,List.setIfInBounds_toArray,List.set_cons_zero,List.set_cons_succ];rfl),hJ.s3 rfl⟩
  ·simp only[List.getElem?_toArray,List.getElem?_cons_succ,List.getElem?_cons_zero,Option.some.injEq] at ho
   subst ho
   have d3:L 3=true:=hdep ⟨3,.data⟩ (by simp) rfl
   have h13:=hJ.not13 (k:=4) (by decide) (by decide) hL
   have e:=hJ.f3 d3;unfold rv at e;have hb:=(Below.refl W.heap.size W).alloc (Nat.le_refl _) (.cells #[.bool (decide (xm.num<0)),.string (nb xm.num.natAbs),.string (nb xm.den)] 33)
   have hM:Rats (W.alloc (.cells #[.bool (decide (xm.num<0)),.string (nb xm.num.natAbs),.string (nb xm.den)] 33)) 0 (.slice (some ⟨W.heap.size,0,none⟩) 1 1) (raws 1 (fun _=>xm)):=Rats.lit W (Nat.zero_le _) [⟨decide (xm.num<0),nb xm.num.natAbs,nb xm.den⟩] (by simp)
   have hm:=hM.slr;clear hdep hM
   simp only[setAll,List.foldl_cons,List.foldl_nil,List.setIfInBounds_toArray,List.set_cons_zero,List.set_cons_succ]
   go_simp
   refine hK.out _ _ ⟨upd V 99 (.slice (some ⟨W.heap.size,0,none⟩) 1 1),(by simp only[setAll,List.foldl_cons,List.foldl_nil,List.setIfInBounds_toArray,List.set_cons_zero,List.set_cons_succ];first|rfl|(rw[←e];rfl)),(hJ.below hb).s4 ⟨_,rfl,hm⟩⟩
  ·simp only[List.getElem?_toArray,List.getElem?_cons_succ,List.getElem?_cons_zero,Option.some.injEq] at ho
   subst ho;have hb:=(Below.refl W.heap.size W).alloc (Nat.le_refl _) (.cells #[.int .i64 (-1)] 3)
   have hV:Vals 3 (W.alloc (.cells #[.int .i64 (-1)] 3)) 0 (.slice (some ⟨W.heap.size,0,none⟩) 1 1) [.int .i64 (-1)]:=Vals.lit W (Nat.zero_le _) 3 [.int .i64 (-1)] (by simp)
   clear hdep
   simp only[setAll,List.foldl_cons,List.foldl_nil,List.setIfInBounds_toArray,List.set_cons_zero,List.set_cons_succ]
   go_simp
   refine hK.out _ _ ⟨upd V 100 (.slice (some ⟨W.heap.size,0,none⟩) 1 1),(by simp only[setAll,List.foldl_cons,List.foldl_nil,List.setIfInBounds_toArray,List.set_cons_zero,List.set_cons_succ];rfl),(hJ.below hb).s5 hV⟩
  ·simp only[List.getElem?_toArray,List.getElem?_cons_succ,List.getElem?_cons_zero,Option.some.injEq] at ho
   subst ho
   have d5:L 5=true:=hdep ⟨5,.data⟩ (by simp) rfl
   have h13:=hJ.not13 (k:=6) (by decide) (by decide) hL
   have hV:=hJ.f5 h13 d5;clear hdep
   simp only[setAll,List.foldl_cons,List.foldl_nil,List.setIfInBounds_toArray,List.set_cons_zero,List.set_cons_succ]
   go_simp
   with_reducible refine(HLl.out _ _ hV).mono ?_
   rintro e W2 ⟨a2,c2,rfl,hR,hb⟩
   refine hK.out _ _ ⟨upd V 101 (.slice a2 1 c2),(by simp only[setAll,List.foldl_cons,List.foldl_nil,List.setIfInBounds_toArray,List.set_cons_zero,List.set_cons_succ];rfl),(hJ.below hb).s6 ⟨a2,c2,rfl,hR.slr⟩⟩
  ·simp only[List.getElem?_toArray,List.getElem?_cons_succ,List.getElem?_cons_zero,Option.some.injEq] at ho
   subst ho
   have d2:L 2=true:=hdep ⟨2,.data⟩ (by simp) rfl
   have d4:L 4=true:=hdep ⟨4,.data⟩ (by simp) rfl
   have d6:L 6=true:=hdep ⟨6,.data⟩ (by simp) rfl
   have h13:=hJ.not13 (k:=7) (by decide) (by decide) hL
   obtain⟨g2,e2,m2⟩:=hJ.f2 h13 d2;obtain⟨g4,e4,m4⟩:=hJ.f4 h13 d4;obtain⟨a6,c6,e6,m6⟩:=hJ.f6 h13 d6;clear hdep
   simp only[setAll,List.foldl_cons,List.foldl_nil,List.setIfInBounds_toArray,List.set_cons_zero,List.set_cons_succ]
   go_simp
   refine hK.out _ _ ⟨upd V 102 (.agg #[.slice (some ⟨g2,0,none⟩) 1 1,.slice (some ⟨g4,0,none⟩) 1 1,.slice a6 1 c6]),(by simp only[setAll,List.foldl_cons,List.foldl_nil,List.setIfInBounds_toArray,List.set_cons_zero,List.set_cons_succ];first|rfl|(rw[←e2,←e4,←e6];rfl)),hJ.s7 ⟨_,_,_,rfl,m2,m4,m6⟩⟩
  ·simp only[List.getElem?_toArray,List.getElem?_cons_succ,List.getElem?_cons_zero,Option.some.injEq] at ho
   subst ho
   have d7:L 7=true:=hdep ⟨7,.data⟩ (by simp) rfl
   have h13:=hJ.not13 (k:=8) (by decide) (by decide) hL
   have hP:=hJ.f7 h13 d7;clear hdep
   simp only[setAll,List.foldl_cons,List.foldl_nil,List.setIfInBounds_toArray,List.set_cons_zero,List.set_cons_succ]
   go_simp
   with_reducible refine(HS4.out _ _ hP).mono ?_
   rintro e W2 ⟨⟨gx,gy,rfl,k1,k2,hX,hY⟩,hb⟩
   refine hK.out _ _ ⟨upd V 103 (.tuple #[solV gx gy 1 1 xm,.int .i64 0]),(by simp only[setAll,List.foldl_cons,List.foldl_nil,List.setIfInBounds_toArray,List.set_cons_zero,List.set_cons_succ];rfl),(hJ.below hb).s8 hL ⟨gx,gy,rfl,hX,hY,fun h12 g e=>by
    obtain⟨g',e',_,_,_,r1,_⟩:=hJ.f12 h12;rw[e] at e'
    obtain rfl:g=g':=by simpa using e'
    have:=(r1 h13).lt
    omega⟩⟩
  ·simp only[List.getElem?_toArray,List.getElem?_cons_succ,List.getElem?_cons_zero,Option.some.injEq] at ho
   subst ho
   have d8:L 8=true:=hdep ⟨8,.data⟩ (by simp) rfl
   clear hdep
   simp only[setAll,List.foldl_cons,List.foldl_nil,List.setIfInBounds_toArray,List.set_cons_zero,List.set_cons_succ]
   go_simp
   refine hK.out _ _ ⟨upd V 94 (V 103),(by simp only[setAll,List.foldl_cons,List.foldl_nil,List.setIfInBounds_toArray,List.set_cons_zero,List.set_cons_succ];rfl),hJ.s9 d8 rfl⟩
  ·simp only[List.getElem?_toArray,List.getElem?_cons_succ,List.getElem?_cons_zero,Option.some.injEq] at ho
   subst ho
   have d9:L 9=true:=hdep ⟨9,.data⟩ (by simp) rfl
   have hh:=Lib.hid (hJ.v9 d9);clear hdep
   simp only[setAll,List.foldl_cons,List.foldl_nil,List.setIfInBounds_toArray,List.set_cons_zero,List.set_cons_succ]
   obtain⟨gx,gy,d8,hq,e⟩:=hh.out;clear hh
   go_simp
   refine hK.out _ _ ⟨upd V 104 (solV gx gy 1 1 xm),(by simp only[setAll,List.foldl_cons,List.foldl_nil,List.setIfInBounds_toArray,List.set_cons_zero,List.set_cons_succ];first|rfl|(rw[←e];rfl)),hJ.s10 d8 hq⟩
  ·simp only[List.getElem?_toArray,List.getElem?_cons_succ,List.getElem?_cons_zero,Option.some.injEq] at ho
   subst ho
   have d9:L 9=true:=hdep ⟨9,.data⟩ (by simp) rfl
   have hh:=Lib.hid (hJ.v9 d9);clear hdep
   simp only[setAll,List.foldl_cons,List.foldl_nil,List.setIfInBounds_toArray,List.set_cons_zero,List.set_cons_succ]
   obtain⟨gx,gy,d8,hq,e⟩:=hh.out;clear hh hq
   go_simp
   refine hK.out _ _ ⟨upd V 105 (.int .i64 0),(by simp only[setAll,List.foldl_cons,List.foldl_nil,List.setIfInBounds_toArray,List.set_cons_zero,List.set_cons_succ];first|rfl|(rw[←e];rfl)),hJ.s11 rfl⟩
  ·simp only[List.getElem?_toArray,List.getElem?_cons_succ,List.getElem?_cons_zero,Option.some.injEq] at ho
   subst ho
   have h13:=hJ.not13 (k:=12) (by decide) (by decide) hL
   have hb:=(Below.refl W.heap.size W).alloc (Nat.le_refl _) (.cells #[.slice none 0 0,.slice none 0 0,.bool false,.string ⟨#[]⟩,.string ⟨#[]⟩] 35);have hr:Rx (W.alloc (.cells #[.slice none 0 0,.slice none 0 0,.bool false,.string ⟨#[]⟩,.string ⟨#[]⟩] 35)) W.heap.size [.slice none 0 0,.slice none 0 0,.bool false,.string ⟨#[]⟩,.string ⟨#[]⟩]:=Rx.new W _ rfl [.slice none 0 0,.slice none 0 0,.bool false,.string ⟨#[]⟩,.string ⟨#[]⟩] 35
   clear hdep
   simp only[setAll,List.foldl_cons,List.foldl_nil,List.setIfInBounds_toArray,List.set_cons_zero,List.set_cons_succ]
   go_simp
   refine hK.out _ _ ⟨upd V 11 (.pointer (some ⟨W.heap.size,0,none⟩)),(by simp only[setAll,List.foldl_cons,List.foldl_nil,List.setIfInBounds_toArray,List.set_cons_zero,List.set_cons_succ];rfl),hJ.s12 h13 hb (Nat.le_refl _) hr⟩
  ·simp only[List.getElem?_toArray,List.getElem?_cons_succ,List.getElem?_cons_zero,Option.some.injEq] at ho
   subst ho
   have hall: ∀k,k<13→k≠11→L k=true:=fun k h1 h2=>by
    rcases(by omega:k=0∨k=1∨k=2∨k=3∨k=4∨k=5∨k=6∨k=7∨k=8∨k=9∨k=10∨k=12) with rfl|rfl|rfl|rfl|rfl|rfl|rfl|rfl|rfl|rfl|rfl|rfl
    all_goals exact hdep ⟨_,.phase⟩ (by simp) rfl
   have hh:=Lib.hid (hJ.s13 hL (hall 12 (by decide) (by decide)) (hall 10 (by decide) (by decide)) hall)
   clear hdep hall
   simp only[setAll,List.foldl_cons,List.foldl_nil,List.setIfInBounds_toArray,List.set_cons_zero,List.set_cons_succ]
   obtain⟨g,gx,gy,e11,e104,hr,hput⟩:=hh.out;clear hh;unfold solV at e104;have c0:=hr.at 0 rfl;have f0:=hr.fr 0 rfl;have c1:=hr.at 1 rfl;have f1:=hr.fr 1 rfl;have c2:=hr.at 2 rfl;have f2:=hr.fr 2 rfl;have c3:=hr.at 3 rfl;have f3:=hr.fr 3 rfl;have c4:=hr.at 4 rfl;have f4:=hr.fr 4 rfl
   go_simp
   refine hK.out _ _ ⟨V,(by simp only[setAll,List.foldl_cons,List.foldl_nil,List.setIfInBounds_toArray,List.set_cons_zero,List.set_cons_succ];rw[e11,e104]),hput _ (((((Off.refl (fun k=>k=g) W).set (p:=⟨g,0,none⟩) rfl _).set (p:=⟨g,1,none⟩) rfl _).set (p:=⟨g,2,none⟩) rfl _).set (p:=⟨g,3,none⟩) rfl _|>.set (p:=⟨g,4,none⟩) rfl _) (((((hr.put 0 _ (by simp)).put 1 _ (by simp)).put 2 _ (by simp)).put 3 _ (by simp)).put 4 _ (by simp))⟩
  ·simp only[List.getElem?_toArray,List.getElem?_cons_succ,List.getElem?_cons_zero,Option.some.injEq] at ho
   subst ho
   have d11:L 11=true:=hdep ⟨11,.data⟩ (by simp) rfl
   clear hdep
   simp only[setAll,List.foldl_cons,List.foldl_nil,List.setIfInBounds_toArray,List.set_cons_zero,List.set_cons_succ]
   go_simp
   refine hK.out _ _ ⟨upd V 12 (V 105),(by simp only[setAll,List.foldl_cons,List.foldl_nil,List.setIfInBounds_toArray,List.set_cons_zero,List.set_cons_succ];rfl),hJ.s14 (hJ.f11 d11)⟩
 ·rintro L a W hall ⟨V,rfl,hJ⟩
  obtain⟨g11,e11,k11,n8,n10,_,r2⟩:=hJ.f12 (hall 12 (by decide))
  obtain⟨gx,gy,b11,hX,hY⟩:=r2 (hall 13 (by decide))
  have e12:=hJ.f14 (hall 14 (by decide))
  have b8:=hJ.b8;have b10:=hJ.b10;have ag:=hJ.acc;clear hJ r2 hall
  simp only[setAll,List.foldl_cons,List.foldl_nil,List.setIfInBounds_toArray,List.set_cons_zero,List.set_cons_succ]
  rw[e11,e12];clear e11 e12
  go_upto_region 10 with fail
  replace ag:=ag.drew;replace b8:=b8.drew;replace b10:=b10.drew;replace b11:=b11.drew;replace hX:=hX.drew;replace hY:=hY.drew
  refine wp_schH (S:=(fun w'=>w'.cell? ⟨g8,0,none⟩=some (.bool (decide (xh.num<0)))∧w'.cell? ⟨g8,1,none⟩=some (.string (nb xh.num.natAbs))∧w'.cell? ⟨g8,2,none⟩=some (.string (nb xh.den))∧w'.cell? ⟨g10,0,none⟩=some (.bool (decide (xm.num<0)))∧w'.cell? ⟨g10,1,none⟩=some (.string (nb xm.num.natAbs))∧w'.cell? ⟨g10,2,none⟩=some (.string (nb xm.den))∧w'.cell? ⟨g11,0,none⟩=some (.slice (some ⟨gx,0,none⟩) 1 1)∧w'.cell? ⟨g11,1,none⟩=some (.slice (some ⟨gy,0,none⟩) 1 1)∧w'.cell? ⟨g11,2,none⟩=some (.bool (decide (xm.num<0)))∧w'.cell? ⟨g11,3,none⟩=some (.string (nb xm.num.natAbs))∧w'.cell? ⟨g11,4,none⟩=some (.string (nb xm.den)))) (ps 0 14 (.c 14 (.c 15 (ps 16 11 (.c 27 (.c 28 (.c 29 (ps 30 2 .e)))))))) [5,7,12,11,8,10] fun A WD hA aq=>?_
  simp only[←aq.out] at ag b8 b10 b11 hX hY
  clear aq
  refine⟨?_,fun ap=>?_⟩
  ·try dsimp only
   with_reducible exact qz335 b8 b10 b11
  repeat(refine isP ?_;refine tkO ?_)
  refine acO fun aa KK hF hK=>?_
  dsimp only[Fa] at hF
  have hS:Rats (WD.alloc (.cells #[.bool (decide (xh.num<0)),.string (nb xh.num.natAbs),.string (nb xh.den)] 33)) 0 (.slice (some ⟨WD.heap.size,0,none⟩) 1 1) (raws 1 (fun _=>xh)):=Rats.lit WD (Nat.zero_le _) [⟨decide (xh.num<0),nb xh.num.natAbs,nb xh.den⟩] (by simp)
  replace ag:=ag.alloc ag.size (.cells #[.bool (decide (xh.num<0)),.string (nb xh.num.natAbs),.string (nb xh.den)] 33);replace b8:=b8.alloc (.cells #[.bool (decide (xh.num<0)),.string (nb xh.num.natAbs),.string (nb xh.den)] 33);replace b10:=b10.alloc (.cells #[.bool (decide (xh.num<0)),.string (nb xh.num.natAbs),.string (nb xh.den)] 33);replace b11:=b11.alloc (.cells #[.bool (decide (xh.num<0)),.string (nb xh.num.natAbs),.string (nb xh.den)] 33)
  replace hX:=hX.alloc (.cells #[.bool (decide (xh.num<0)),.string (nb xh.num.natAbs),.string (nb xh.den)] 33);replace hY:=hY.alloc (.cells #[.bool (decide (xh.num<0)),.string (nb xh.num.natAbs),.string (nb xh.den)] 33)
  go_simp
  generalize WD.heap.size=gS at*;generalize WD.alloc (.cells #[.bool (decide (xh.num<0)),.string (nb xh.num.natAbs),.string (nb xh.den)] 33)=WS at*
  (first|refine hK.out _ _ ?_ (fun ap=>?_)|(go_wp2_with fail;refine hK.out _ _ ?_ (fun ap=>?_)))
  ·try dsimp only
   with_reducible exact qz335 b8 b10 b11
  clear hK KK hF aa
  refine caO (HEh.out _ _ _ _ _ hX hS) fun e wX hz=>?_
  obtain⟨rfl,am⟩:=hz;replace ag:=ag.tr am;replace b8:=b8.below am;replace b10:=b10.below am;replace b11:=b11.below am;replace hX:=hX.below am;replace hY:=hY.below am;replace hS:=hS.below am;clear am;clear hS
  refine⟨_,rfl,?_,?_⟩
  ·try dsimp only
   with_reducible exact qz335 b8 b10 b11
  repeat(refine isP ?_;refine tkO ?_)
  refine acO fun aa KK hF hK=>?_
  dsimp only[Fa] at hF
  have hV:Vals 3 (wX.alloc (.cells #[.int .i64 1] 3)) 0 (.slice (some ⟨wX.heap.size,0,none⟩) 1 1) [.int .i64 1]:=Vals.lit wX (Nat.zero_le _) 3 [.int .i64 1] (by simp)
  replace ag:=ag.alloc ag.size (.cells #[.int .i64 1] 3);replace b8:=b8.alloc (.cells #[.int .i64 1] 3);replace b10:=b10.alloc (.cells #[.int .i64 1] 3);replace b11:=b11.alloc (.cells #[.int .i64 1] 3);replace hX:=hX.alloc (.cells #[.int .i64 1] 3);replace hY:=hY.alloc (.cells #[.int .i64 1] 3)
  go_simp
  generalize wX.heap.size=gv at*;generalize wX.alloc (.cells #[.int .i64 1] 3)=WBgv at*
  (first|refine hK.out _ _ ?_ (fun ap=>?_)|(go_wp2_with fail;refine hK.out _ _ ?_ (fun ap=>?_)))
  ·try dsimp only
   with_reducible exact qz335 b8 b10 b11
  clear hK KK hF aa
  refine caO (HL1.out _ _ hV) fun e wX hz=>?_
  obtain⟨a1,c1,rfl,hR1,am⟩:=hz;clear hV;replace ag:=ag.tr am;replace b8:=b8.below am;replace b10:=b10.below am;replace b11:=b11.below am;replace hX:=hX.below am;replace hY:=hY.below am;clear am
  refine⟨_,rfl,?_,?_⟩
  ·try dsimp only
   with_reducible exact qz335 b8 b10 b11
  refine caO (HE1.out _ _ _ _ _ hY hR1) fun e wX hz=>?_
  obtain⟨rfl,am⟩:=hz;replace ag:=ag.tr am;replace b8:=b8.below am;replace b10:=b10.below am;replace b11:=b11.below am;replace hX:=hX.below am;replace hY:=hY.below am;replace hR1:=hR1.below am;clear am;clear hR1
  refine⟨_,rfl,?_,?_⟩
  ·try dsimp only
   with_reducible exact qz335 b8 b10 b11
  repeat(refine isP ?_;refine tkO ?_)
  refine enO hA ?_
  clear hA;clear hX hY HEh HE1 HL1;clear b8 b10 b11
  go_upto_region 12 with fail
  have hP5:PR wX (.agg #[.slice none 0 0,.slice none 0 0,.slice none 0 0]) 0 0 (fun _ _=>0) (fun _=>0) (fun _=>0):=⟨_,_,_,rfl,⟨none,0,rfl,fun h=>by omega⟩,⟨none,0,rfl,fun h=>by omega⟩,⟨none,0,rfl,fun h=>by omega⟩⟩
  go_wp2_with fail
  with_reducible refine(HS5.out _ _ hP5).mono ?_
  rintro e wX ⟨⟨gx5,gy5,rfl⟩,am⟩;clear hP5;unfold solV;replace ag:=ag.tr am;clear am;have kg13:=ag.size;replace ag:=ag.alloc ag.size (.cells #[.slice (some ⟨gx5,0,none⟩) 0 0,.slice (some ⟨gy5,0,none⟩) 0 0,.bool (decide (x0.num<0)),.string (nb x0.num.natAbs),.string (nb x0.den)] 35);have b13:Rx (wX.alloc (.cells #[.slice (some ⟨gx5,0,none⟩) 0 0,.slice (some ⟨gy5,0,none⟩) 0 0,.bool (decide (x0.num<0)),.string (nb x0.num.natAbs),.string (nb x0.den)] 35)) wX.heap.size [.slice (some ⟨gx5,0,none⟩) 0 0,.slice (some ⟨gy5,0,none⟩) 0 0,.bool (decide (x0.num<0)),.string (nb x0.num.natAbs),.string (nb x0.den)]:=Rx.new wX _ rfl [.slice (some ⟨gx5,0,none⟩) 0 0,.slice (some ⟨gy5,0,none⟩) 0 0,.bool (decide (x0.num<0)),.string (nb x0.num.natAbs),.string (nb x0.den)] 35
  go_upto_region 13 with fail
  generalize wX.heap.size=g13 at*;generalize wX.alloc (.cells #[.slice (some ⟨gx5,0,none⟩) 0 0,.slice (some ⟨gy5,0,none⟩) 0 0,.bool (decide (x0.num<0)),.string (nb x0.num.natAbs),.string (nb x0.den)] 35)=Wg13 at*
  have hw0:IntKind.i64.wrap 0=0:=by decide
  replace ag:=ag.drew;replace b13:=b13.drew
  refine wp_schH (S:=(fun w'=>w'.cell? ⟨g13,0,none⟩=some (.slice (some ⟨gx5,0,none⟩) 0 0)∧w'.cell? ⟨g13,1,none⟩=some (.slice (some ⟨gy5,0,none⟩) 0 0)∧w'.cell? ⟨g13,2,none⟩=some (.bool (decide (x0.num<0)))∧w'.cell? ⟨g13,3,none⟩=some (.string (nb x0.num.natAbs))∧w'.cell? ⟨g13,4,none⟩=some (.string (nb x0.den)))) (ps 0 15 (.c 15 (ps 16 3 .e))) [14,13] fun A WD hA aq=>?_
  simp only[←aq.out] at ag b13
  clear aq
  refine⟨?_,fun ap=>?_⟩
  ·try dsimp only
   with_reducible exact qz5 b13
  repeat(refine isP ?_;refine tkO ?_)
  refine caO (HO0.out _) fun e wX hz=>?_
  obtain⟨rfl,am⟩:=hz;replace ag:=ag.tr am;replace b13:=b13.below am;clear am
  refine⟨_,rfl,?_,?_⟩
  ·try dsimp only
   with_reducible exact qz5 b13
  repeat(refine isP ?_;refine tkO ?_)
  refine enO hA ?_
  clear hA
  go_wp2_with fail
  go_ret
  obtain rfl:=HW0.out
  exact⟨rfl,ag⟩
end Go.Proofs.YtinmmkcjjlconaaGreat
