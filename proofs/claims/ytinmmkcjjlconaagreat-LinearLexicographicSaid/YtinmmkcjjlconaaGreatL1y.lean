/- For every program by numbers, every two numbers and every further number the law LinearLexicographic of the given program returns true and leaves its arguments as they were: the list is that of the reference implementation; it is feasible, and has the greatest value; exchanging and multiplying rows does not change it. Conditions: none. -/
import Derived.Test.YtinmmkcjjlconaaGreatL1x
set_option maxRecDepth 100000
set_option maxHeartbeats 16000000
namespace Go.Proofs.YtinmmkcjjlconaaGreat
open Go.RowKit W
open Pl (nb bv bv_nb nb_size_zero)
open Lp (S S_succ Cert Out Unb)
def unitF(at_:Nat)(x:Rat)(k:Nat):Rat:=if k=at_ then x else 0
theorem unit_any (n at_:Nat) (x:Rat) (w:World) (hn:n≤1000):
  Calls Tryz.prog 70 #[.int .i64 (n:Int),.int .i64 (at_:Int),.agg #[.bool (decide (x.num<0)),.string (nb x.num.natAbs),.string (nb x.den)]] w fun e w'=> ∃a c,e= .returned (.slice a n c)∧Sep w w' (two (listT (.slice a n c) (raws n (unitF at_ x))) nothing):=by
 obtain⟨z0,hz0⟩: ∃z:Rat,z=0:=⟨_,rfl⟩;have HZ:=Lib.hid (fun W=>rzero_any W);rw[←hz0] at HZ;have H0:=Lib.hid hz0
 simp only[rv] at HZ
 clear hz0
 go_enter Tryz.func70,Tryz.ntmps70
 have⟨bX,ag⟩:=opn1 w [.bool (decide (x.num<0)),.string (nb x.num.natAbs),.string (nb x.den)] 33
 go_upto_region 1 with fail
 generalize w.alloc (.cells #[.bool (decide (x.num<0)),.string (nb x.num.natAbs),.string (nb x.den)] 33)=W0 at*;obtain⟨gX,hgX⟩: ∃g,g=w.heap.size:=⟨_,rfl⟩;rw[←hgX] at bX
 simp only[←hgX]
 have kgX:w.heap.size≤gX:=by omega
 clear hgX;have HbX:=Lib.hid (fun W (hb:Below W0.heap.size W0 W)=>bX.below hb);have HB0:=Lib.hid ag;clear bX ag
 go_wp2_with fail
 go_loopw [7,8] (fun s7 s8 wr=> ∃k:Nat,k≤n∧s8= .int .i64 (k:Int)∧Sep W0 wr (two (listT s7 (raws k (unitF at_ x))) nothing)) (fun _ s8 _=>n-(intOf s8).toNat)
 case atStart=>exact⟨0,by omega,rfl,Sep.one0 W0⟩
 case round=>
  obtain⟨k,hk,rfl,hS⟩:=hrel
  have hw1:IntKind.i64.wrap ((k:Int)+1)=(k:Int)+1:=by rw[IntKind.wrap_i64];omega
  by_cases hlt:k<n
  ·have hk0:(0:Int)≤(k:Int):=by omega
   have hk1:(k:Int)<(n:Int):=by omega
   have ag:=Below.refl wr.heap.size wr
   by_cases hki:k=at_
   ·have he:(k:Int)=(at_:Int):=by omega
    have HX:Hid (raws (k+1) (unitF at_ x)=raws k (unitF at_ x)++ [⟨decide (x.num<0),nb x.num.natAbs,nb x.den⟩]):=Lib.hid (by
     have h:=raws_succ k (unitF at_ x);have e:unitF at_ x k=x:=if_pos hki;rw[e] at h
     exact h)
    clear hki;have HIE:=Lib.hid he
    have hse:((k:Int)==(at_:Int))=true:=by rw[he];simp
    clear he;have kb:=HbX.out _ hS.acc;have b0:=kb.at 0 rfl;have b1:=kb.at 1 rfl;have b2:=kb.at 2 rfl;clear kb
    have hL:=Rats.lit (B:=0) wr (Nat.zero_le _) [⟨decide (x.num<0),nb x.num.natAbs,nb x.den⟩] (by simp)
    have hSa:=hS.alloc (.cells #[.bool (decide (x.num<0)),.string (nb x.num.natAbs),.string (nb x.den)] 33)
    have hln:(raws k (unitF at_ x)).length+ [(⟨decide (x.num<0),nb x.num.natAbs,nb x.den⟩:Raw)].length<1000000000:=by rw[raws_len];simp;omega
    go_wp2_with (at_builtin;refine app_rats (by rfl) (by rfl) (by rfl) (by rfl) 0 (hSa.lst (i:=0) rfl) hL hln (Nat.zero_le _) ?_;intro v2 w2_ e1 e2 e3)
    have hSb:=hSa.app (x:=0) rfl e2 e1 e3;rw[←HX.out] at hSb;replace hSb:=hSb.only (a:=listT v2 (raws (k+1) (unitF at_ x))) (b:=nothing) rfl rfl;clear hS hSa hL hln e1 e2 e3 HX b0 b1 b2
    go_roundw
    case rel=>exact⟨k+1,by omega,by go_num,hSb⟩
    case measure=>simp[intOf];omega
   ·have he: ¬(k:Int)=(at_:Int):=by omega
    have HX:Hid (raws (k+1) (unitF at_ x)=raws k (unitF at_ x)++ [⟨decide (z0.num<0),nb z0.num.natAbs,nb z0.den⟩]):=Lib.hid (by
     have h:=raws_succ k (unitF at_ x);have e:unitF at_ x k=z0:=(if_neg hki).trans H0.out.symm;rw[e] at h
     exact h)
    clear hki
    go_wp2_with fail
    with_reducible refine(HZ.out _).mono ?_
    rintro e wX ⟨rfl,am⟩;replace ag:=ag.tr am;replace hS:=hS.below am;clear am
    have hL:=Rats.lit (B:=0) wX (Nat.zero_le _) [⟨decide (z0.num<0),nb z0.num.natAbs,nb z0.den⟩] (by simp)
    have hSa:=hS.alloc (.cells #[.bool (decide (z0.num<0)),.string (nb z0.num.natAbs),.string (nb z0.den)] 33)
    have hln:(raws k (unitF at_ x)).length+ [(⟨decide (z0.num<0),nb z0.num.natAbs,nb z0.den⟩:Raw)].length<1000000000:=by rw[raws_len];simp;omega
    go_wp2_with (at_builtin;refine app_rats (by rfl) (by rfl) (by rfl) (by rfl) 0 (hSa.lst (i:=0) rfl) hL hln (Nat.zero_le _) ?_;intro v2 w2_ e1 e2 e3)
    have hSb:=hSa.app (x:=0) rfl e2 e1 e3;rw[←HX.out] at hSb;replace hSb:=hSb.only (a:=listT v2 (raws (k+1) (unitF at_ x))) (b:=nothing) rfl rfl;clear hS hSa hL hln e1 e2 e3 HX
    go_roundw
    case rel=>exact⟨k+1,by omega,by go_num,hSb⟩
    case measure=>simp[intOf];omega
  ·obtain rfl:n=k:=by omega
   have hk1: ¬(n:Int)<(n:Int):=by omega
   obtain⟨a,c,e⟩:=(hS.lst (i:=0) rfl).form;rw[raws_len] at e;subst e
   go_wp2_with fail
   go_ret
   exact⟨a,c,rfl,hS.rebase HB0.out⟩
theorem lex_rows {m n:Nat} {A:Nat→Nat→Rat} {C:Nat→Rat} {T:Nat→Thing} {rw_:Nat→Value} {r:Value} (h: ∀i,i<m→T (7+i)=listT (rw_ i) (raws n (A i))) (hm:T (7+m)=listT r (raws n (fun c=> -C c))):
  ∀i,i<m+1→T (7+i)=listT (ap1 m rw_ r i) (raws n (Lp.lexA m A C i)):=fun i hi=>by
 by_cases e:i=m
 ·subst e
  rw[hm];unfold ap1;rw[if_neg (Nat.lt_irrefl i)]
  exact congrArg _ (raws_congr fun c _=>by unfold Lp.lexA;rw[if_neg (Nat.lt_irrefl _),if_pos rfl])
 ·have hi2:i<m:=by omega
  rw[h i hi2];unfold ap1;rw[if_pos hi2]
  exact congrArg _ (raws_congr fun c _=>by unfold Lp.lexA;rw[if_pos hi2])
theorem lex_b {m:Nat} {B:Nat→Rat} {v y:Rat} {z:Nat→Rat} {t:Value} (h:y= -v):listT t (raws (m+1) (ap1 m B y))=listT t (raws (m+1) (Lp.lexB m B v z)):=congrArg _ (raws_congr fun i hi=>by
 unfold ap1 Lp.lexB
 by_cases e:i<m
 ·rw[if_pos e,if_pos e]
 ·rw[if_neg e,if_neg e,if_pos (by omega),h])
theorem lex_rows2 {m n j:Nat} {A:Nat→Nat→Rat} {C:Nat→Rat} {T:Nat→Thing} {rr:Nat→Value} {r:Value} {q:Rat} (hq:q=1) (h: ∀i,i<m+1+j→T (7+i)=listT (rr i) (raws n (Lp.lexA m A C i))) (hm:T (7+(m+1+j))=listT r (raws n (unitF j q))):
  ∀i,i<m+1+(j+1)→T (7+i)=listT (ap1 (m+1+j) rr r i) (raws n (Lp.lexA m A C i)):=fun i hi=>by
 by_cases e:i=m+1+j
 ·subst e
  rw[hm];unfold ap1;rw[if_neg (Nat.lt_irrefl _)]
  exact congrArg _ (raws_congr fun c _=>by unfold Lp.lexA unitF;rw[if_neg (show ¬m+1+j<m by omega),if_neg (show ¬m+1+j=m by omega),hq,show m+1+j-(m+1)=j by omega])
 ·have hi2:i<m+1+j:=by omega
  rw[h i hi2];unfold ap1;rw[if_pos hi2]
theorem lex_b2 {m j:Nat} {B:Nat→Rat} {v y:Rat} {z:Nat→Rat} (h:y=z j):Lp.lexB m B v z (m+1+j)=y:=by
 unfold Lp.lexB
 rw[if_neg (by omega),if_neg (by omega),show m+1+j-(m+1)=j by omega,h]
theorem Sep.over {wb W w:World} {T:Nat→Thing} (h:Sep wb W T) (x:Nat) {v:Value} {l:List Raw} (h2:Sep W w (two (listT v l) nothing)):Sep wb w (upd T x (listT v l)):=
 h.step x _ (off_of h2.acc) (h2.lst (i:=0) rfl) (fun b hb=>.inr (h2.o 0 b hb))
theorem Sep.overbox {wb W:World} {T:Nat→Thing} (h:Sep wb W T) (x:Nat) (cs:List Value) (t:TypeId):Sep wb (W.alloc (.cells cs.toArray t)) (upd T x (boxT W.heap.size cs)):=by
 have h2:=(h.step x nothing (Off.refl _ _) trivial (fun _ h=>h.elim)).newbox (x:=x) (upd_same _ _ _) cs t;rw[upd_upd] at h2
 exact h2
theorem Sep.set5 {wb W:World} {T:Nat→Thing} {x g:Nat} {a b c d e:Value} (h:Sep wb W T) (hx:T x=boxT g [a,b,c,d,e]) (a' b' c' d' e':Value):
  Sep wb (((((W.setCell ⟨g,0,none⟩ a').setCell ⟨g,1,none⟩ b').setCell ⟨g,2,none⟩ c').setCell ⟨g,3,none⟩ d').setCell ⟨g,4,none⟩ e') (upd T x (boxT g [a',b',c',d',e'])):=by
 have h5:=((((h.setbox hx a' (j:=0) (by simp)).setbox (upd_same _ _ _) b' (j:=1) (by simp)).setbox (upd_same _ _ _) c' (j:=2) (by simp)).setbox (upd_same _ _ _) d' (j:=3) (by simp)).setbox (upd_same _ _ _) e' (j:=4) (by simp)
 simp only[List.set,upd_upd] at h5
 exact h5
structure LexR (m n:Nat) (A:Nat→Nat→Rat) (B C:Nat→Rat) (z:Nat→Rat) (k:Nat) (w:World) (e:Ending) (w':World):Prop where
  ex :Below w.heap.size w w'∧Out m n A B C k∧
    ((k=0∧∃a c,e= .returned (.tuple #[.slice a n c,.int .i64 0])∧SlR w' (.slice a n c) n z)∨
     (k=1∧e= .returned (.tuple #[.slice none 0 0,.int .i64 16]))∨(k=2∧e= .returned (.tuple #[.slice none 0 0,.int .i64 40])))
theorem rlex_any (m n:Nat) (A:Nat→Nat→Rat) (B C:Nat→Rat) (a0 a1 a2:Option Addr) (c0 c1 c2:Nat) (v:Rat) (z:Nat→Rat) (w:World) (h:PR w (.agg #[.slice a0 m c0,.slice a1 m c1,.slice a2 n c2]) m n A B C) (hmn:m+n≤90) (ft:Fits m n A B C) (fr:FitR m n A B C)
  (hval: ∀X Y q,Cert m n A B C X Y q→q=v) (hlex:Out m n A B C 0→Lp.Lex m n A B C v z∧∀x,Lp.Feas m n A B x→S n (fun c=>C c*x c)≤v)
  (fits: ∀j,j<n→Fits (m+1+j) n (Lp.lexA m A C) (Lp.lexB m B v z) (Lp.lexC j)∧FitR (m+1+j) n (Lp.lexA m A C) (Lp.lexB m B v z) (Lp.lexC j)) (sz: ∀j,j<n→Sz (z j) 40000) (sv:Sz v 40000):
  Calls Tryz.prog 34 #[.agg #[.slice a0 m c0,.slice a1 m c1,.slice a2 n c2]] w fun e w'=> ∃k,LexR m n A B C z k w e w':=by
 have hm:=ft.hm;have hn:=ft.hn;obtain⟨_,_,hC⟩:=h.parts
 have HR:=Lib.hid (fun W (hb:Below w.heap.size w W)=>rprog_any m n A B C a0 a1 a2 c0 c1 c2 W (h.below hb) hm (by omega) ⟨fun i j hi hj=>(ft.s.a i j hi hj).mono (by decide),fun i hi=>(ft.s.b i hi).mono (by decide),fun j hj=>(ft.s.c j hj).mono (by decide)⟩)
 have HP:=Lib.hid (fun W (hb:Below w.heap.size w W)=>h.below hb);have HRs:=Lib.hid (fun a0 a1 a2 c0 c1 c2 W h=>rsolve_any m n A B C a0 a1 a2 c0 c1 c2 W h ft fr);have HRj:=Lib.hid (fun j (hj:j<n) a0 a1 a2 c0 c1 c2 W h=>rsolve_any (m+1+j) n _ _ _ a0 a1 a2 c0 c1 c2 W h (fits j hj).1 (fits j hj).2);have HVal:=Lib.hid hval;have HLex:=Lib.hid hlex;have Hsz:=Lib.hid sz;have Hsv:=Lib.hid sv
 have HC:=Lib.hid (fun j (hj:j<n)=>hC.get hj);have HSc:=Lib.hid (fun j (hj:j<n)=>ft.s.c j hj)
 have HCp:=Lib.hid (fun W h=>copyS_any (.agg #[.slice a0 m c0,.slice a1 m c1,.slice a2 n c2]) m n A B C W h (by omega) (by omega))
 have HNg:=Lib.hid (fun(q:Rat) W (hq:Sz q 40000)=>rneg2_any q W (hq.mono (by decide)))
 obtain⟨q1,hq1⟩: ∃q:Rat,q=1:=⟨_,rfl⟩;obtain⟨qm,hqm⟩: ∃q:Rat,q= -q1:=⟨_,rfl⟩
 have HO1:Hid (∀W,Calls Tryz.prog 18 #[.int .i64 1] W fun e w'=>e= .returned (rv q1)∧Below W.heap.size W w'):=Lib.hid (fun W=>by rw[hq1];exact rof2_any 1 W (by decide) (by decide))
 have HNo:Hid (∀W,Calls Tryz.prog 21 #[rv q1] W fun e w'=>e= .returned (rv qm)∧Below W.heap.size W w'):=Lib.hid (fun W=>by rw[hqm,hq1];exact rneg2_any 1 W (Sz_one.mono (by decide)))
 have HU0:=Lib.hid (fun j W=>unit_any n j qm W (by omega))
 have HU1:=Lib.hid (fun j W=>unit_any n j q1 W (by omega))
 have HM:Hid (∀j t,listT t (raws n (unitF j qm))=listT t (raws n (Lp.lexC j))):=Lib.hid (fun j t=>congrArg _ (raws_congr fun c _=>by unfold unitF Lp.lexC;rw[hqm,hq1]))
 have H1q:=Lib.hid hq1;have Hsn:=Lib.hid (fun j (hj:j<n)=>(Sz_neg (sz j hj):Sz (-z j) 40000));clear hq1 hqm
 simp only[rv] at HNg HO1 HNo
 have hmn0: ¬(90:Int)<(m:Int)+(n:Int):=by omega
 have hmn1:IntKind.i64.wrap ((m:Int)+(n:Int))=(m:Int)+(n:Int):=by rw[IntKind.wrap_i64];omega
 clear h ft fr hval hlex fits sz sv hC
 go_enter Tryz.func34,Tryz.ntmps34
 have⟨bP,ag⟩:=opn1 w [.slice a0 m c0,.slice a1 m c1,.slice a2 n c2] 29
 go_upto_region 1 with fail
 generalize w.alloc (.cells #[.slice a0 m c0,.slice a1 m c1,.slice a2 n c2] 29)=W0 at*;obtain⟨gP,hgP⟩: ∃g,g=w.heap.size:=⟨_,rfl⟩;rw[←hgP] at bP
 simp only[←hgP]
 have kgP:w.heap.size≤gP:=by omega
 clear hgP;have⟨cP0,fP0,cP1,fP1,cP2,fP2⟩:=bP.all3
 go_wp2_with fail
 clear cP0 fP0 cP1 fP1 cP2 fP2
 with_reducible refine(HR.out _ ag).mono ?_
 rintro e wX ⟨rfl,am⟩;clear HR;replace ag:=ag.tr am;replace bP:=bP.below am;clear am;have⟨cP0,fP0,cP1,fP1,cP2,fP2⟩:=bP.all3
 go_upto_region 6 with fail
 clear cP0 fP0 cP1 fP1 cP2 fP2;have HbP:=Lib.hid (fun W (hb:Below wX.heap.size wX W)=>bP.below hb);have HB0:=Lib.hid (fun W (hb:Below wX.heap.size wX W)=>ag.tr hb);clear bP ag;obtain⟨wB,hwB⟩: ∃wB,wB=wX:=⟨_,rfl⟩
 simp only[←hwB] at*
 clear hwB;have hr:=Below.refl wB.heap.size wB;have k0:=(HbP.out _ hr).at 0 rfl;have k1:=(HbP.out _ hr).at 1 rfl;have k2:=(HbP.out _ hr).at 2 rfl
 go_wp2_with fail
 clear k0 k1 k2
 with_reducible refine(HRs.out _ _ _ _ _ _ _ (HP.out _ (HB0.out _ hr))).mono ?_
 clear hr;rintro e wX ⟨k,hk⟩;obtain⟨am,hOut,hres⟩:=hk.ex;clear hk
 rcases hres with⟨rfl,ax,cx,ay,cy,X,Y,v',rfl,hcert,_,_,hsz⟩|hres
 ·skip
  obtain rfl:v=v':=(HVal.out _ _ _ hcert).symm;have hz:=HLex.out (.ok hcert);have HLx:=Lib.hid hz.1;have HVm:=Lib.hid hz.2;have HO0:=Lib.hid hOut;clear hz hcert hsz hOut;have hS:=(Sep.start am).newbox (x:=0) rfl [.slice ax n cx,.slice ay m cy,.bool (decide (v.num<0)),.string (nb v.num.natAbs),.string (nb v.den)] 35
  go_upto_region 9 with fail
  generalize wX.heap.size=gs at*;generalize wX.alloc (.cells #[.slice ax n cx,.slice ay m cy,.bool (decide (v.num<0)),.string (nb v.num.natAbs),.string (nb v.den)] 35)=wY at*;have k0:=(HbP.out _ hS.acc).at 0 rfl;have k1:=(HbP.out _ hS.acc).at 1 rfl;have k2:=(HbP.out _ hS.acc).at 2 rfl
  go_wp2_with fail
  clear k0 k1 k2
  with_reducible refine(HCp.out _ (HP.out _ (HB0.out _ hS.acc))).mono ?_
  rintro e wX ⟨b0,d0,b1,d1,b2,d2,rfl,rw_,T2,hS2,hp2⟩
  obtain⟨T,hS,t0,t2,tB,tC,tA,tr⟩: ∃T,Sep wB (wX.alloc (.cells #[.slice b0 m d0,.slice b1 m d1,.slice b2 n d2] 29)) T∧T 0=boxT gs [.slice ax n cx,.slice ay m cy,.bool (decide (v.num<0)),.string (nb v.num.natAbs),.string (nb v.den)]∧T 2=boxT wX.heap.size [.slice b0 m d0,.slice b1 m d1,.slice b2 n d2]∧T 3=listT (.slice b1 m d1) (raws m B)∧T 4=listT (.slice b2 n d2) (raws n C)∧T 6=valsT (.slice b0 m d0) ((List.range m).map rw_)∧∀i,i<m→T (7+i)=listT (rw_ i) (raws n (A i)):=
   ⟨_,(hS.join hS2 3).newbox (x:=2) rfl [.slice b0 m d0,.slice b1 m d1,.slice b2 n d2] 29,rfl,rfl,hp2.b,hp2.c,hp2.a,fun i hi=>upd_o (by omega) ((if_neg (by omega)).trans ((congrArg T2 (by omega:7+i-3=4+i)).trans (hp2.r i hi)))⟩
  clear hS2 hp2 T2
  go_upto_region 10 with fail
  generalize wX.heap.size=gq at*;generalize wX.alloc (.cells #[.slice b0 m d0,.slice b1 m d1,.slice b2 n d2] 29)=wY2 at*;have k2:=(HbP.out _ hS.acc).at 2 rfl
  go_wp2_with fail
  clear k2
  go_loopw [8,9] (fun s8 s9 wr=> ∃k:Nat,k≤n∧s9= .int .i64 (k:Int)∧∃U,Sep wB wr U∧(∀z,z≠7+m→U z=T z)∧U (7+m)=listT s8 (raws k (fun c=> -C c))) (fun _ s9 _=>n-(intOf s9).toNat)
  case atStart=>exact⟨0,by omega,rfl,_,hS.step (7+m) (listT (.slice none 0 0) []) (Off.refl _ _) (Rats.nil _ _) (fun b hb=>(own_none hb).elim),fun z hz=>upd_ne hz,upd_same _ _ _⟩
  case round=>
   clear hS;obtain⟨k,hk9,rfl,U,hS,hk,hU⟩:=hrel
   have hw1:IntKind.i64.wrap ((k:Int)+1)=(k:Int)+1:=by rw[IntKind.wrap_i64];omega
   have kp2:=(HbP.out _ hS.acc).at 2 rfl
   by_cases hlt:k<n
   ·have hk0:(0:Int)≤(k:Int):=by omega
    have hk1:(k:Int)<(n:Int):=by omega
    obtain⟨bC,rfl,hCk⟩:=HC.out k hlt;obtain⟨q0,q1,q2⟩:=hCk wr (HB0.out _ hS.acc);clear hCk;have hHN:=HNg.out (C k) wr (HSc.out k hlt);obtain⟨p',hp'⟩: ∃p',p'= -C k:=⟨_,rfl⟩;have HPk:=Lib.hid (show(fun c=> -C c) k=p' from hp'.symm);rw[←hp'] at hHN;clear hp';generalize C k=u' at*;have ag:=Below.refl wr.heap.size wr;have hS:=hS
    go_wp2_with fail
    clear kp2 q0 q1 q2
    with_reducible refine(hHN).mono ?_
    rintro e wX ⟨rfl,am⟩;replace ag:=ag.tr am;replace hS:=hS.below am;clear am
    have HX:Hid (raws (k+1) (fun c=> -C c)=raws (k) (fun c=> -C c)++ [⟨decide (p'.num<0),nb p'.num.natAbs,nb p'.den⟩]):=Lib.hid (by
     have h:=raws_succ (k) (fun c=> -C c);have e: -C k=p':=HPk.out;rw[e] at h
     exact h)
    have hL:=Rats.lit (B:=0) wX (Nat.zero_le _) [⟨decide (p'.num<0),nb p'.num.natAbs,nb p'.den⟩] (by simp)
    have hSa:=hS.alloc (.cells #[.bool (decide (p'.num<0)),.string (nb p'.num.natAbs),.string (nb p'.den)] 33)
    have hln:(raws (k) (fun c=> -C c)).length+ [(⟨decide (p'.num<0),nb p'.num.natAbs,nb p'.den⟩:Raw)].length<1000000000:=by rw[raws_len];simp;omega
    go_wp2_with (at_builtin;refine app_rats (by rfl) (by rfl) (by rfl) (by rfl) 0 (hSa.lst hU) hL hln (Nat.zero_le _) ?_;intro v2 w2_ e1 e2 e3)
    have hSb:=hSa.app hU e2 e1 e3;rw[←HX.out] at hSb;clear hS hSa hL hln e1 e2 e3 HX
    go_roundw
    case rel=>exact⟨k+1,by omega,by go_num,_,hSb,fun z hz=>(upd_ne hz).trans (hk z hz),upd_same _ _ _⟩
    case measure=>simp[intOf];omega
   ·obtain rfl:n=k:=by omega
    have hk1: ¬(n:Int)<(n:Int):=by omega
    obtain⟨aR,cR,eR⟩:=(hS.lst hU).form;rw[raws_len] at eR;subst eR
    replace t0:=(hk _ (by omega)).trans t0
    replace t2:=(hk _ (by omega)).trans t2
    replace tB:=(hk _ (by omega)).trans tB
    replace tC:=(hk _ (by omega)).trans tC
    replace tA:=(hk _ (by omega)).trans tA
    replace tr:=fun i hi=>(hk (7+i) (by omega)).trans (tr i hi)
    clear hk;have kb:=(hS.box t2).at 0 rfl
    have hL:=Vals.lit (B:=0) wr (Nat.zero_le _) 27 [.slice aR n cR] (by simp)
    have hSa:=hS.alloc (.cells #[.slice aR n cR] 27);have hA0:Vals 27 _ 0 (.slice b0 m d0) ((List.range m).map rw_):=hSa.vals tA
    have hone: ∀u∈ [Value.slice aR n cR],u.oneCell'=true:=fun u hu=>by
     simp only[List.mem_cons,List.not_mem_nil,or_false] at hu
     rcases hu with rfl
     rfl
    have hlen:((List.range m).map rw_).length+ [Value.slice aR n cR].length<1000000000:=by simp only[List.length_map,List.length_range,List.length_cons,List.length_nil];omega
    go_wp2_with (at_builtin;refine app_vals Tryz.underlying26 info_rats rfl (by decide) (by rfl) (by rfl) (by rfl) (by rfl) 0 hA0 hL hone hlen (Nat.zero_le _) ?_;intro vA2 w2_ e1 e2 e3;clear kb;obtain⟨aE,cE,rfl⟩: ∃a c,vA2= .slice a (m+1) c:=(by obtain⟨a,c,e,_⟩:=e1.form;simp only[List.length_append,List.length_map,List.length_range,List.length_cons,List.length_nil,Nat.zero_add] at e;exact⟨a,c,e⟩);have hSb:=hSa.appV tA e2 e1 e3;have kb:=(hSb.box (upd_o (by decide) t2)).at 0 rfl;have fb:=(hSb.box (upd_o (by decide) t2)).fr 0 rfl)
    have hSb:=hSa.appV tA e2 e1 e3
    have hS:=hSb.setbox (upd_o (by decide) t2) (.slice aE (m+1) cE) (j:=0) (by simp)
    clear hSb hSa hL hA0 hone hlen e1 e2 e3
    simp only[List.set] at hS
    generalize w2_.setCell ⟨gq,0,none⟩ (.slice aE (m+1) cE)=W2 at*;rw[←vals_ap1] at hS
    obtain⟨T',hS,hk,tA,t2⟩:=hS.gen2 (by decide)
    replace t0:=(hk _ (by omega) (by omega)).trans t0
    replace tB:=(hk _ (by omega) (by omega)).trans tB
    replace tC:=(hk _ (by omega) (by omega)).trans tC
    replace hU:=(hk _ (by omega) (by omega)).trans hU
    replace tr: ∀i,i<m+1→T' (7+i)=listT (ap1 m rw_ (.slice aR n cR) i) (raws n (Lp.lexA m A C i)):=lex_rows (fun i hi=>(hk (7+i) (by omega) (by omega)).trans (tr i hi)) hU
    clear hk hU;have HNv:=Lib.hid (fun W=>HNg.out v W Hsv.out);obtain⟨y',hy'⟩: ∃y',y'= -v:=⟨_,rfl⟩;rw[←hy'] at HNv;have HY:=Lib.hid hy';clear hy'
    go_upto_region 16 with fail
    go_cut [64] from 57 to 64 (fun _ wx=> ∃UU a c,Sep wB wx UU∧(∀z,z≠3→z≠2→UU z=T' z)∧UU 3=listT (.slice a (m+1) c) (raws (m+1) (ap1 m B y'))∧UU 2=boxT gq [.slice aE (m+1) cE,.slice a (m+1) c,.slice b2 n d2])
    case first=>
     replace hS:=hS.drew
     refine wp_schH (S:=fun w'=>w'.cell? ⟨gs,2,none⟩=some (.bool (decide (v.num<0)))∧w'.cell? ⟨gs,3,none⟩=some (.string (nb v.num.natAbs))∧w'.cell? ⟨gs,4,none⟩=some (.string (nb v.den))) (hc:=by as_aux_lemma=>kernel_rfl) (.p 0 (.p 2 (.p 3 (.b (.c 1 (.c 4 (.c 5 (.c 6 (.p 7 (.c 8 .e)))))) (.c 4 (.b (.c 1 (.c 5 (.c 6 (.p 7 (.c 8 .e))))) (.c 5 (.c 1 (.c 6 (.p 7 (.c 8 .e))))))))))) [7,5] fun zA WD hA aq=>?_
     simp only[←aq.out] at hS
     clear aq
     refine⟨⟨(hS.box t0).at 2 rfl,(hS.box t0).at 3 rfl,(hS.box t0).at 4 rfl⟩,fun hS0=>?_⟩
     repeat' first
      |((with_reducible refine isP ?_);refine tkO ?_)
      |(with_reducible refine brO ?_ ?_)
      |(
       with_reducible refine isC (i:=1) ?_
       refine ldC (i:=1) ((hS.box t2).at 1 rfl) ⟨(hS.box t0).at 2 rfl,(hS.box t0).at 3 rfl,(hS.box t0).at 4 rfl⟩ ?_)
      |(
       with_reducible refine isC (i:=4) ?_
       refine caO (i:=4) (HNv.out _) fun e wn hz=>?_
       obtain⟨rfl,hb⟩:=hz;replace hS:=hS.below hb;clear hb
       refine⟨_,rfl,⟨(hS.box t0).at 2 rfl,(hS.box t0).at 3 rfl,(hS.box t0).at 4 rfl⟩,?_⟩)
      |(
       with_reducible refine isC (i:=5) ?_
       refine liO (i:=5) (k:=1) (l:= [⟨decide (y'.num<0),nb y'.num.natAbs,nb y'.den⟩]) (by simp) rfl rfl fun _ _ hr hg hb=>?_
       replace hS:=hS.below hb;have hlit:=hr;clear hr hg hb
       refine⟨⟨(hS.box t0).at 2 rfl,(hS.box t0).at 3 rfl,(hS.box t0).at 4 rfl⟩,?_⟩)
      |(
       with_reducible refine isC (i:=6) ?_
       refine apS (i:=6) (x:=3) (k:=m+1) hS tB hlit (by rw[raws_len];rfl) (by omega) fun aX cX wa hz _=>?_
       replace hS:=hz;clear hz hlit
       refine⟨⟨(hS.box (upd_o (by decide) t0)).at 2 rfl,(hS.box (upd_o (by decide) t0)).at 3 rfl,(hS.box (upd_o (by decide) t0)).at 4 rfl⟩,?_⟩)
      |(
       with_reducible refine isC (i:=8) ?_
       refine stB (i:=8) (x:=2) (j:=1) hS (upd_o (by omega) t2) rfl fun ws hz=>?_
       replace hS:=hz;clear hz
       refine⟨⟨(hS.box (upd_o (by decide) (upd_o (by decide) t0))).at 2 rfl,(hS.box (upd_o (by decide) (upd_o (by decide) t0))).at 3 rfl,(hS.box (upd_o (by decide) (upd_o (by decide) t0))).at 4 rfl⟩,?_⟩)
     all_goals(
      refine enP hA ?_
      clear hA HNv
      simp only[List.set] at hS
      rw[←raws_ap1] at hS
      obtain⟨UU,hS,hk,h3,h2⟩:=hS.gen2 (by decide)
      go_wp2_with fail
      go_meet
      exact⟨UU,_,_,hS,hk,h3,h2⟩)
    case rest=>
     clear hS HNv;obtain⟨T,aF,cF,hS,hk,h3,h2⟩:=hcut;replace t2:=h2;replace tB:T 3=listT (.slice aF (m+1) cF) (raws (m+1) (Lp.lexB m B v z)):=h3.trans (lex_b HY.out);clear h2 h3 HY
     replace t0:=(hk _ (by omega) (by omega)).trans t0
     replace tC:=(hk _ (by omega) (by omega)).trans tC
     replace tA:=(hk _ (by omega) (by omega)).trans tA
     replace tr:=fun i hi=>(hk (7+i) (by omega) (by omega)).trans (tr i hi)
     clear hk
     go_wp2_with fail
     go_loopw [10,11] (fun s10 s11 wr=> ∃j:Nat,j≤n∧s11= .int .i64 (j:Int)∧∃U,Sep wB wr U∧U 1=listT s10 (raws j z)∧∃a c a' c' vC rr x0 x1 x2 x3 x4,U 0=boxT gs [x0,x1,x2,x3,x4]∧U 2=boxT gq [.slice a (m+1+j) c,.slice a' (m+1+j) c',vC]∧U 3=listT (.slice a' (m+1+j) c') (raws (m+1+j) (Lp.lexB m B v z))∧U 6=valsT (.slice a (m+1+j) c) ((List.range (m+1+j)).map rr)∧∀i,i<m+1+j→U (7+i)=listT (rr i) (raws n (Lp.lexA m A C i))) (fun _ s11 _=>n-(intOf s11).toNat)
     case atStart=>exact⟨0,by omega,rfl,_,hS.step 1 (listT (.slice none 0 0) []) (Off.refl _ _) (Rats.nil _ _) (fun b hb=>(own_none hb).elim),upd_same _ _ _,_,_,_,_,_,_,_,_,_,_,_,upd_o (by decide) t0,upd_o (by decide) t2,upd_o (by decide) tB,upd_o (by decide) tA,fun i hi=>upd_o (by omega) (tr i hi)⟩
     case round=>
      clear hS t0 t2 tB tC tA tr;obtain⟨j,hj9,rfl,T,hS,t1,aA,cA,aB,cB,vC,rr,x0,x1,x2,x3,x4,t0,t2,tB,tA,tr⟩:=hrel
      have hw1:IntKind.i64.wrap ((j:Int)+1)=(j:Int)+1:=by rw[IntKind.wrap_i64];omega
      have kp2:=(HbP.out _ hS.acc).at 2 rfl
      by_cases hlt:j<n
      ·have hj0:(0:Int)≤(j:Int):=by omega
       have hj1:(j:Int)<(n:Int):=by omega
       go_upto_region 21 with fail
       clear kp2;replace hS:=hS.drew
       refine wp_schH (S:=fun w'=>w'.cell? ⟨gP,2,none⟩=some (.slice a2 n c2)) (hc:=by as_aux_lemma=>kernel_rfl) (.p 0 (.p 1 (.p 2 (.p 3 (.c 4 (.c 5 (.c 6 (.p 7 (.c 8 .e))))))))) [1,11,7] fun zA WD hA aq=>?_
       simp only[←aq.out] at hS
       clear aq
       refine⟨((HbP.out _ hS.acc).at 2 rfl),fun hS0=>?_⟩
       repeat' first
        |((with_reducible refine isP ?_);refine tkO ?_)
        |(
         with_reducible refine isC (i:=4) ?_
         refine caO (i:=4) (HO1.out _) fun e wn hz=>?_
         obtain⟨rfl,hb⟩:=hz;replace hS:=hS.below hb;clear hb
         refine⟨_,rfl,((HbP.out _ hS.acc).at 2 rfl),?_⟩)
        |(
         with_reducible refine isC (i:=5) ?_
         refine caO (i:=5) (HNo.out _) fun e wn hz=>?_
         obtain⟨rfl,hb⟩:=hz;replace hS:=hS.below hb;clear hb
         refine⟨_,rfl,((HbP.out _ hS.acc).at 2 rfl),?_⟩)
        |(
         with_reducible refine isC (i:=6) ?_
         refine caO (i:=6) (HU0.out j _) fun e wn hz=>?_
         obtain⟨aU,cU,rfl,hT⟩:=hz;replace hS:=hS.over 4 hT;clear hT
         refine⟨_,rfl,((HbP.out _ hS.acc).at 2 rfl),?_⟩)
        |(
         with_reducible refine isC (i:=8) ?_
         refine stB (i:=8) (x:=2) (j:=2) hS (upd_o (by decide) t2) rfl fun ws hz=>?_
         replace hS:=hz;clear hz
         refine⟨((HbP.out _ hS.acc).at 2 rfl),?_⟩)
       refine enP hA ?_
       clear hA
       simp only[List.set] at hS
       obtain⟨U,hS,hk,t4,t2⟩:=hS.gen2 (by decide)
       replace t0:=(hk _ (by omega) (by omega)).trans t0
       replace t1:=(hk _ (by omega) (by omega)).trans t1
       replace tB:=(hk _ (by omega) (by omega)).trans tB
       replace tA:=(hk _ (by omega) (by omega)).trans tA
       replace tr:=fun i hi=>(hk (7+i) (by omega) (by omega)).trans (tr i hi)
       clear hk;rw[HM.out j] at t4
       have hpr:PR ws (.agg #[.slice aA (m+1+j) cA,.slice aB (m+1+j) cB,.slice aU n cU]) (m+1+j) n (Lp.lexA m A C) (Lp.lexB m B v z) (Lp.lexC j):=Parts.pr (T:=fun i=>U (3+i)) ⟨tB,t4,tA,fun i hi=>(congrArg U (by omega:3+(4+i)=7+i)).trans (tr i hi)⟩ (fun i=>hS.p (3+i))
       have kq:=hS.box t2;have k0:=kq.at 0 rfl;have k1:=kq.at 1 rfl;have k2:=kq.at 2 rfl;clear kq
       go_wp2_with fail
       clear k0 k1 k2
       with_reducible refine(HRj.out j hlt _ _ _ _ _ _ _ hpr).mono ?_
       clear hpr;rintro e wX ⟨k,hk⟩;obtain⟨am,hOut,hres⟩:=hk.ex;clear hk;have hk0:=HLx.out.code hlt hOut;clear hOut
       rcases hres with⟨rfl,a5,c5,a6,c6,X',Y',q,rfl,hcert,_,_,_⟩|⟨h1,_⟩|⟨h1,_⟩
       rotate_left
       ·omega
       ·omega
       have hq:=HLx.out.value HVm.out hlt hcert;clear hcert hk0;have HNq:=Lib.hid (fun W=>HNg.out q W (hq.symm▸Hsn.out j hlt));obtain⟨y',hy'⟩: ∃y',y'=z j:=⟨_,rfl⟩
       have e9: -q=y':=by rw[hq,hy',Rat.neg_neg]
       rw[e9] at HNq;have HY:=Lib.hid hy';clear hy' e9 hq;replace hS:=hS.below am;clear am;have kg:=hS.box t0;have k0:=kg.at 0 rfl;have k1:=kg.at 1 rfl;have k2:=kg.at 2 rfl;have k3:=kg.at 3 rfl;have k4:=kg.at 4 rfl;have f0:=kg.fr 0 rfl;have f1:=kg.fr 1 rfl;have f2:=kg.fr 2 rfl;have f3:=kg.fr 3 rfl;have f4:=kg.fr 4 rfl;clear kg
       go_upto_region 23 with fail
       clear k0 k1 k2 k3 k4 f0 f1 f2 f3 f4;replace hS:=hS.set5 t0 (.slice a5 n c5) (.slice a6 (m+1+j) c6) (.bool (decide (q.num<0))) (.string (nb q.num.natAbs)) (.string (nb q.den));generalize ((((wX.setCell ⟨gs,0,none⟩ (.slice a5 n c5)).setCell ⟨gs,1,none⟩ (.slice a6 (m+1+j) c6)).setCell ⟨gs,2,none⟩ (.bool (decide (q.num<0)))).setCell ⟨gs,3,none⟩ (.string (nb q.num.natAbs))).setCell ⟨gs,4,none⟩ (.string (nb q.den))=wY3 at*
       obtain⟨U2,hS,hk,t0⟩:=hS.gen1
       replace t1:=(hk _ (by omega)).trans t1
       replace t2:=(hk _ (by omega)).trans t2
       replace tB:=(hk _ (by omega)).trans tB
       replace tA:=(hk _ (by omega)).trans tA
       replace t4:=(hk _ (by omega)).trans t4
       replace tr:=fun i hi=>(hk (7+i) (by omega)).trans (tr i hi)
       clear hk;have kg:=hS.box t0;have k2:=kg.at 2 rfl;have k3:=kg.at 3 rfl;have k4:=kg.at 4 rfl;clear kg
       go_wp2_with fail
       clear k2 k3 k4
       with_reducible refine(HNq.out _).mono ?_
       rintro e wX ⟨rfl,am⟩;clear HNq;replace hS:=hS.below am;clear am;replace hS:=hS.overbox 5 [.bool (decide (y'.num<0)),.string (nb y'.num.natAbs),.string (nb y'.den)] 33
       go_upto_region 26 with fail
       generalize wX.heap.size=g5 at*;generalize wX.alloc (.cells #[.bool (decide (y'.num<0)),.string (nb y'.num.natAbs),.string (nb y'.den)] 33)=wY4 at*;obtain⟨U3,hS,hk,t5⟩:=hS.gen1
       replace t0:=(hk _ (by omega)).trans t0
       replace t1:=(hk _ (by omega)).trans t1
       replace t2:=(hk _ (by omega)).trans t2
       replace tB:=(hk _ (by omega)).trans tB
       replace tA:=(hk _ (by omega)).trans tA
       replace tr:=fun i hi=>(hk (7+i) (by omega)).trans (tr i hi)
       clear hk t4
       go_cut [101] from 91 to 101 (fun _ wx=> ∃UU a c a' c',Sep wB wx UU∧(∀z,z≠7+(m+1+j)→z≠6→z≠2→UU z=U3 z)∧UU (7+(m+1+j))=listT (.slice a' n c') (raws n (unitF j q1))∧UU 6=valsT (.slice a (m+1+j+1) c) ((List.range (m+1+j+1)).map (ap1 (m+1+j) rr (.slice a' n c')))∧UU 2=boxT gq [.slice a (m+1+j+1) c,.slice aB (m+1+j) cB,.slice aU n cU])
       case first=>
        have kq:=(HbP.out _ hS.acc).at 2 rfl;clear kq;replace hS:=hS.drew
        refine wp_schH (S:=fun w'=>w'.cell? ⟨gP,2,none⟩=some (.slice a2 n c2)) (hc:=by as_aux_lemma=>kernel_rfl) (.p 0 (.p 2 (.p 3 (.p 4 (.p 5 (.b (.c 1 (.c 6 (.c 7 (.c 8 (.c 9 (.p 10 (.c 11 .e))))))) (.c 6 (.b (.c 1 (.c 7 (.c 8 (.c 9 (.p 10 (.c 11 .e)))))) (.c 7 (.b (.c 1 (.c 8 (.c 9 (.p 10 (.c 11 .e))))) (.c 8 (.c 1 (.c 9 (.p 10 (.c 11 .e))))))))))))))) [7,1,11] fun zA WD hA aq=>?_
        simp only[←aq.out] at hS
        clear aq
        refine⟨((HbP.out _ hS.acc).at 2 rfl),fun hS0=>?_⟩
        repeat' first
         |((with_reducible refine isP ?_);refine tkO ?_)
         |(with_reducible refine brO ?_ ?_)
         |(
          with_reducible refine isC (i:=1) ?_
          first|refine ldC (i:=1) ((hS.box t2).at 0 rfl) ((HbP.out _ hS.acc).at 2 rfl) ?_|refine ldC (i:=1) ((hS.box (upd_o (by omega) t2)).at 0 rfl) ((HbP.out _ hS.acc).at 2 rfl) ?_)
         |(
          with_reducible refine isC (i:=6) ?_
          refine caO (i:=6) (HO1.out _) fun e wn hz=>?_
          obtain⟨rfl,hb⟩:=hz;replace hS:=hS.below hb;clear hb
          refine⟨_,rfl,((HbP.out _ hS.acc).at 2 rfl),?_⟩)
         |(
          with_reducible refine isC (i:=7) ?_
          refine caO (i:=7) (HU1.out j _) fun e wn hz=>?_
          obtain⟨aV,cV,rfl,hT⟩:=hz;replace hS:=hS.over (7+(m+1+j)) hT;clear hT
          refine⟨_,rfl,((HbP.out _ hS.acc).at 2 rfl),?_⟩)
         |(
          with_reducible refine isC (i:=8) ?_
          refine liV (i:=8) (k:=1) (l:= [.slice aV n cV]) (by simp) rfl fun _ _ hr hg hb=>?_
          replace hS:=hS.below hb;have hlitV:=hr;clear hr hg hb
          refine⟨((HbP.out _ hS.acc).at 2 rfl),?_⟩)
         |(
          with_reducible refine isC (i:=9) ?_
          refine apV (i:=9) (x:=6) (k:=m+1+j+1) hS (upd_o (by omega) tA) hlitV (cell_one _ _ _) (by simp) (by omega) fun aW cW wa hz _=>?_
          replace hS:=hz;clear hz hlitV
          refine⟨((HbP.out _ hS.acc).at 2 rfl),?_⟩)
         |(
          with_reducible refine isC (i:=11) ?_
          refine stB (i:=11) (x:=2) (j:=0) hS (upd_o (by omega) (upd_o (by omega) t2)) rfl fun ws hz=>?_
          replace hS:=hz;clear hz
          refine⟨((HbP.out _ hS.acc).at 2 rfl),?_⟩)
        all_goals(
         refine enP hA ?_
         clear hA
         simp only[List.set] at hS
         rw[←vals_ap1] at hS
         obtain⟨UU,hS,hk,h7,h6,h2⟩:=hS.gen3 (by omega) (by omega) (by decide)
         go_wp2_with fail
         go_meet
         exact⟨UU,_,_,_,_,hS,hk,h7,h6,h2⟩)
       case rest=>
        clear hS;obtain⟨T,aW,cW,aV,cV,hS,hk,h7,h6,h2⟩:=hcut;replace t2:=h2;replace tA:=h6;clear h2 h6
        replace t0:=(hk _ (by omega) (by omega) (by omega)).trans t0
        replace t1:=(hk _ (by omega) (by omega) (by omega)).trans t1
        replace tB:=(hk _ (by omega) (by omega) (by omega)).trans tB
        replace t5:=(hk _ (by omega) (by omega) (by omega)).trans t5
        replace tr: ∀i,i<m+1+(j+1)→T (7+i)=listT (ap1 (m+1+j) rr (.slice aV n cV) i) (raws n (Lp.lexA m A C i)):=lex_rows2 H1q.out (fun i hi=>(hk (7+i) (by omega) (by omega) (by omega)).trans (tr i hi)) h7
        clear hk h7
        have HX:Hid (raws (m+1+j+1) (Lp.lexB m B v z)=raws (m+1+j) (Lp.lexB m B v z)++ [⟨decide (y'.num<0),nb y'.num.natAbs,nb y'.den⟩]):=Lib.hid (by
         have h:=raws_succ (m+1+j) (Lp.lexB m B v z);rw[lex_b2 HY.out] at h
         exact h)
        have HX1:Hid (raws (j+1) z=raws j z++ [⟨decide (y'.num<0),nb y'.num.natAbs,nb y'.den⟩]):=Lib.hid (by
         have h:=raws_succ j z;rw[←HY.out] at h
         exact h)
        have kq:=hS.box t2;have k1:=kq.at 1 rfl;have kl:=hS.box t5;have b0:=kl.at 0 rfl;have b1:=kl.at 1 rfl;have b2:=kl.at 2 rfl;clear kq kl
        have hL:=Rats.lit (B:=0) wc (Nat.zero_le _) [⟨decide (y'.num<0),nb y'.num.natAbs,nb y'.den⟩] (by simp)
        have hSa:=hS.alloc (.cells #[.bool (decide (y'.num<0)),.string (nb y'.num.natAbs),.string (nb y'.den)] 33)
        have hln:(raws (m+1+j) (Lp.lexB m B v z)).length+ [(⟨decide (y'.num<0),nb y'.num.natAbs,nb y'.den⟩:Raw)].length<1000000000:=by rw[raws_len];simp;omega
        go_upto_region 28 with(at_builtin;refine app_rats (by rfl) (by rfl) (by rfl) (by rfl) 0 (hSa.lst tB) hL hln (Nat.zero_le _) ?_;intro v2 w2_ e1 e2 e3;obtain⟨av,cv,ev⟩:=e1.form;rw[←HX.out,raws_len] at ev;subst ev;have hSb:=hSa.app tB e2 e1 e3;have kg:=hSb.box (upd_o (by decide) t2);have g1:=kg.at 1 rfl;have g1f:=kg.fr 1 rfl)
        have hSb:=hSa.app tB e2 e1 e3;rw[←HX.out] at hSb
        have hSc:=hSb.setbox (upd_o (by decide) t2) (.slice av (m+1+j+1) cv) (j:=1) (by simp)
        simp only[List.set] at hSc
        clear hS hSa hSb hL hln e1 e2 e3 k1 b0 b1 b2 g1 g1f kg HX;generalize w2_.setCell ⟨gq,1,none⟩ (.slice av (m+1+j+1) cv)=W5 at*
        obtain⟨U5,hS,hk,tB,t2⟩:=hSc.gen2 (by decide)
        clear hSc
        replace t0:=(hk _ (by omega) (by omega)).trans t0
        replace t1:=(hk _ (by omega) (by omega)).trans t1
        replace tA:=(hk _ (by omega) (by omega)).trans tA
        replace t5:=(hk _ (by omega) (by omega)).trans t5
        replace tr:=fun i hi=>(hk (7+i) (by omega) (by omega)).trans (tr i hi)
        clear hk;have kl:=hS.box t5;have b0:=kl.at 0 rfl;have b1:=kl.at 1 rfl;have b2:=kl.at 2 rfl;clear kl
        have hL:=Rats.lit (B:=0) W5 (Nat.zero_le _) [⟨decide (y'.num<0),nb y'.num.natAbs,nb y'.den⟩] (by simp)
        have hSa:=hS.alloc (.cells #[.bool (decide (y'.num<0)),.string (nb y'.num.natAbs),.string (nb y'.den)] 33)
        have hln:(raws j z).length+ [(⟨decide (y'.num<0),nb y'.num.natAbs,nb y'.den⟩:Raw)].length<1000000000:=by rw[raws_len];simp;omega
        go_wp2_with (at_builtin;refine app_rats (by rfl) (by rfl) (by rfl) (by rfl) 0 (hSa.lst t1) hL hln (Nat.zero_le _) ?_;intro v2 w2_ e1 e2 e3)
        have hSb:=hSa.app t1 e2 e1 e3;rw[←HX1.out] at hSb;clear hS hSa hL hln e1 e2 e3 b0 b1 b2 HX1 HY;obtain⟨U6,hS,hk,t1⟩:=hSb.gen1;clear hSb
        go_roundw
        case rel=>exact⟨j+1,by omega,by go_num,U6,hS,t1,aW,cW,av,cv,.slice aU n cU,_,_,_,_,_,_,(hk _ (by omega)).trans t0,(hk _ (by omega)).trans t2,(hk _ (by omega)).trans tB,(hk _ (by omega)).trans tA,fun i hi=>(hk _ (by omega)).trans (tr i hi)⟩
        case measure=>simp[intOf];omega
      ·obtain rfl:n=j:=by omega
       have hj1: ¬(n:Int)<(n:Int):=by omega
       obtain⟨aO,cO,eO⟩:=(hS.lst t1).form;rw[raws_len] at eO;subst eO
       go_wp2_with fail
       refine bodyPost_ret (v:=.tuple #[.slice aO n cO,.int .i64 0]) (by simp[results,Tryz.results34,go_sem]) rfl ?_
       exact⟨0,HB0.out _ hS.acc,HO0.out,.inl ⟨rfl,_,_,rfl,(hS.lst t1).slr⟩⟩
 ·have hS:=(Sep.start am).newbox (x:=0) rfl [.slice none 0 0,.slice none 0 0,.bool false,.string ⟨#[]⟩,.string ⟨#[]⟩] 35
  rcases hres with⟨rfl,rfl⟩|⟨rfl,rfl⟩
  ·unfold solZ
   go_wp2_with fail
   refine bodyPost_ret (v:=.tuple #[.slice none 0 0,.int .i64 16]) (by simp[results,Tryz.results34,go_sem]) rfl ?_
   exact⟨1,HB0.out _ hS.acc,hOut,.inr (.inl ⟨rfl,rfl⟩)⟩
  ·unfold solZ
   go_wp2_with fail
   refine bodyPost_ret (v:=.tuple #[.slice none 0 0,.int .i64 40]) (by simp[results,Tryz.results34,go_sem]) rfl ?_
   exact⟨2,HB0.out _ hS.acc,hOut,.inr (.inr ⟨rfl,rfl⟩)⟩
end Go.Proofs.YtinmmkcjjlconaaGreat
namespace Go.Proofs.YtinmmkcjjlconaaGreat
open Go.RowKit W
open Pl (nb bv bv_nb nb_size_zero)
open Lp (S S_succ Cert Out)
structure LexL (m n:Nat) (A:Nat→Nat→Rat) (B C:Nat→Rat) (k:Nat) (w:World) (e:Ending) (w':World):Prop where
  ex :Below w.heap.size w w'∧Out m n A B C k∧
    ((k=0∧∃a c z X Y v,e= .returned (.tuple #[.slice a n c,.int .i64 0])∧SlR w' (.slice a n c) n z∧Lp.Lex m n A B C v z∧Cert m n A B C X Y v∧∃T,Lp.Way m n A B T∧z=Lp.bsol m T)∨
     (k=1∧e= .returned (.tuple #[.slice none 0 0,.int .i64 16]))∨(k=2∧e= .returned (.tuple #[.slice none 0 0,.int .i64 40])))
theorem lexS_of {m n:Nat} {A:Nat→Nat→Rat} {B C:Nat→Rat} {T:Lp.Tab} (h:Lp.SolP m n A B C 0 T):Lp.LexS m n A B C (S n (fun j=>C j*Lp.bsol m T j)) 0 T (Lp.barN m n T (Lp.cst n C) Lp.noBar):=by
 have hw:=h.way.1
 cases h with
 |ok p hb hk he=>exact Lp.LexS.start hw (hk.noH hb) (fun j hj=>he j (by omega) ⟨hj,fun h=>h⟩)
theorem _root_.Lp.LexS.bar_of {m n k:Nat} {A:Nat→Nat→Rat} {B C:Nat→Rat} {v:Rat} {T:Lp.Tab} {g:Nat→Rat} {p q:Nat→Prop} {bar:Nat→Bool} (h:Lp.LexS m n A B C v k T (Lp.barN m n T g p)) (hb: ∀j,bar j=true↔Lp.barN m n T g q j) (e: ∀j,q j↔p j):Lp.LexS m n A B C v k T (fun j=>bar j=true):=by
 have e1:q=p:=funext fun j=>propext (e j);subst e1;have e2:(fun j=>bar j=true)=Lp.barN m n T g q:=funext fun j=>propext (hb j);rw[e2]
 exact h
theorem lex_any (m n:Nat) (A:Nat→Nat→Rat) (B C:Nat→Rat) (a0 a1 a2:Option Addr) (c0 c1 c2:Nat) (w:World) (h:PR w (.agg #[.slice a0 m c0,.slice a1 m c1,.slice a2 n c2]) m n A B C) (hmn:m+n≤90) (ft:Fits m n A B C):
  Calls Tryz.prog 33 #[.agg #[.slice a0 m c0,.slice a1 m c1,.slice a2 n c2]] w fun e w'=> ∃k,LexL m n A B C k w e w':=by
 have hm:=ft.hm;have hn:=ft.hn;have fit:=ft.f;have fg:=ft.g
 have HR:=Lib.hid (fun W (hb:Below w.heap.size w W)=>lright_any _ m n A B C W (h.below hb) hm (by omega) ⟨fun i j hi hj=>(ft.s.a i j hi hj).mono (by decide),fun i hi=>(ft.s.b i hi).mono (by decide),fun j hj=>(ft.s.c j hj).mono (by decide)⟩)
 obtain⟨hA,hB,hC⟩:=h.parts
 have HCl:=Lib.hid (fun W (hb:Below w.heap.size w W)=>climbTo_any m n hm (by omega) A B C _ _ _ W (hA.below hb) (hB.below hb) (hC.below hb) fit fg)
 obtain⟨x1,hx1⟩: ∃x:Rat,x= -1:=⟨_,rfl⟩
 have HOf:Hid (∀W,Calls Tryz.prog 67 #[.int .i64 (-1)] W fun e w'=>e= .returned (rv x1)∧Below W.heap.size W w'):=Lib.hid (fun W=>by
  have:=aof_any (-1) W (by decide) (by decide)
  rw[hx1];exact this)
 have HX:=Lib.hid hx1
 simp only[rv] at HOf
 have hmn0: ¬(90:Int)<(m:Int)+(n:Int):=by omega
 have hmn1:IntKind.i64.wrap ((m:Int)+(n:Int))=(m:Int)+(n:Int):=by rw[IntKind.wrap_i64];omega
 clear h hA hB hC ft hx1
 go_enter Tryz.func33,Tryz.ntmps33
 have⟨bP,ag⟩:=opn1 w [.slice a0 m c0,.slice a1 m c1,.slice a2 n c2] 29
 go_upto_region 1 with fail
 generalize w.alloc (.cells #[.slice a0 m c0,.slice a1 m c1,.slice a2 n c2] 29)=W0 at*;obtain⟨gP,hgP⟩: ∃g,g=w.heap.size:=⟨_,rfl⟩;rw[←hgP] at bP
 simp only[←hgP]
 have kgP:w.heap.size≤gP:=by omega
 clear hgP;have⟨cP0,fP0,cP1,fP1,cP2,fP2⟩:=bP.all3
 go_wp2_with fail
 clear cP0 fP0 cP1 fP1 cP2 fP2
 with_reducible refine(HR.out _ ag).mono ?_
 rintro e wX ⟨rfl,am⟩;clear HR;replace ag:=ag.tr am;replace bP:=bP.below am;clear am;have⟨cP0,fP0,cP1,fP1,cP2,fP2⟩:=bP.all3
 go_upto_region 5 with fail
 go_wp2_with fail
 clear cP0 fP0 cP1 fP1 cP2 fP2
 with_reducible refine(HCl.out _ ag).mono ?_
 clear HCl;have hsz:=ag.size;rintro e wY ⟨code,T,hsol,am,hres⟩;have hsP:gP<wX.heap.size:=bP.lt;replace ag:=ag.tr am;replace bP:=bP.below am;clear am
 rcases hres with⟨rfl,D,o,rfl,rfl,rfl,rfl,rfl,hT,hsD,rfl⟩|⟨rfl,rfl⟩|⟨rfl,rfl⟩
 ·skip
  have hway:=hsol.way.1;have hst:=lexS_of hsol;have HC0:=Lib.hid hsol.cert;have HO0:=Lib.hid hsol.out;generalize S D.n (fun j=>D.C j*Lp.bsol D.m T j)=v at*;clear hsol
  have hMP: ¬D.Mut gP:=fun hm=>by have:=o.ge hm;omega
  have hRP:gP≠D.gr:=by have:=o.lr;omega
  have hML: ∀k,D.Mut k∨k=D.gr→w.heap.size≤k:=fun k hk=>by
   rcases hk with hk|rfl
   ·exact Nat.le_trans (Nat.le_trans hsz hsD) (o.ge hk)
   ·exact Nat.le_trans (Nat.le_trans hsz hsD) o.lr
  have hMZ: ∀k,D.Mut k∨k=D.gr→k<wY.heap.size:=fun k hk=>by
   rcases hk with hk|rfl
   ·exact hT.own_lt (TD.own_mut hk)
   ·exact hT.own_lt (.inr (.inr (.inr (.inl rfl))))
  replace hT:=hT.alloc (.cells #[.pointer (some ⟨D.bt,0,none⟩)] 72);have kgT:=ag.size;replace ag:=ag.alloc ag.size (.cells #[.pointer (some ⟨D.bt,0,none⟩)] 72);have dgP:=bP.lt;replace bP:=bP.alloc (.cells #[.pointer (some ⟨D.bt,0,none⟩)] 72);have bT:Rx (wY.alloc (.cells #[.pointer (some ⟨D.bt,0,none⟩)] 72)) wY.heap.size [.pointer (some ⟨D.bt,0,none⟩)]:=Rx.new wY _ rfl [.pointer (some ⟨D.bt,0,none⟩)] 72
  go_upto_region 6 with fail
  generalize wY.heap.size=gT at*;generalize wY.alloc (.cells #[.pointer (some ⟨D.bt,0,none⟩)] 72)=WgT at*
  have ngPgT:gP≠gT:=by omega
  clear dgP
  have hMT: ¬(D.Mut gT∨gT=D.gr):=fun hm=>by have:=hMZ gT hm;omega
  have ct:=bT.at 0 rfl
  go_wp2_with fail
  clear ct
  with_reducible refine(bar_any D o T (fun _=>false) 42 #[.pointer (some ⟨D.bt,0,none⟩)] #[] (Lp.cst D.n D.C) WgT hT hway gain_enters (gain_fn D o _ WgT hT.tf).none fg.s (fun i k hi=>fit.t i k hi) (fit.szT fg hway)).mono ?_
  rintro e w3 ⟨⟨v',rfl⟩,hoff,bar,hT3,hbar⟩
  replace hst:=hst.bar_of hbar (fun j=>⟨fun h=>(by cases h),fun h=>h.elim⟩)
  replace bP:=bP.off hoff hRP;replace bT:=bT.off hoff (fun e=>hMT (.inr e))
  replace ag:=ag.trans (hoff.below (B:=w.heap.size) (fun k hk e=>by have:=hML k (.inr e);omega) ag.size)
  clear hbar hT hoff
  go_wp2_with fail
  with_reducible refine(HOf.out _).mono ?_
  rintro e wX ⟨rfl,am⟩;clear HOf;replace hT3:=hT3.below am;replace ag:=ag.tr am;replace bP:=bP.below am;replace bT:=bT.below am;clear am;have hsM:D.bt<wX.heap.size:=hT3.fix.lt
  have hMZ2: ∀k,D.Mut k∨k=D.gr→k<wX.heap.size:=fun k hk=>by
   rcases hk with hk|rfl
   ·exact hT3.own_lt (TD.own_mut hk)
   ·exact hT3.own_lt (.inr (.inr (.inr (.inl rfl))))
  replace hT3:=hT3.alloc (.cells #[.bool (decide (x1.num<0)),.string (nb x1.num.natAbs),.string (nb x1.den)] 33);have kgM:=ag.size;replace ag:=ag.alloc ag.size (.cells #[.bool (decide (x1.num<0)),.string (nb x1.num.natAbs),.string (nb x1.den)] 33);have dgP:=bP.lt;have dgT:=bT.lt;replace bP:=bP.alloc (.cells #[.bool (decide (x1.num<0)),.string (nb x1.num.natAbs),.string (nb x1.den)] 33)
  replace bT:=bT.alloc (.cells #[.bool (decide (x1.num<0)),.string (nb x1.num.natAbs),.string (nb x1.den)] 33);have bM:Rx (wX.alloc (.cells #[.bool (decide (x1.num<0)),.string (nb x1.num.natAbs),.string (nb x1.den)] 33)) wX.heap.size [.bool (decide (x1.num<0)),.string (nb x1.num.natAbs),.string (nb x1.den)]:=Rx.new wX _ rfl [.bool (decide (x1.num<0)),.string (nb x1.num.natAbs),.string (nb x1.den)] 33
  go_upto_region 10 with fail
  generalize wX.heap.size=gM at*;generalize wX.alloc (.cells #[.bool (decide (x1.num<0)),.string (nb x1.num.natAbs),.string (nb x1.den)] 33)=WgM at*
  have ngPgM:gP≠gM:=by omega
  have ngTgM:gT≠gM:=by omega
  clear dgP dgT
  have hMM: ¬(D.Mut gM∨gM=D.gr):=fun hm=>by have:=hMZ2 gM hm;omega
  rw[HX.out] at bM;have HbT:=Lib.hid (fun W (ho:Off (fun k=>D.Mut k∨k=D.gr) WgM W)=>bT.off ho hMT);have HbM:=Lib.hid (fun W (ho:Off (fun k=>D.Mut k∨k=D.gr) WgM W)=>bM.off ho hMM)
  have HB0:=Lib.hid (fun W (ho:Off (fun k=>D.Mut k∨k=D.gr) WgM W)=>ag.trans (ho.below (B:=w.heap.size) (fun k hk hm=>by have:=hML k hm;omega) ag.size))
  have cp2:=bP.at 2 rfl;clear hML hMZ hMZ2
  go_wp2_with fail
  clear cp2
  go_loopw [36] (fun s36 W=> ∃k:Nat,k≤D.n∧s36= .int .i64 (k:Int)∧Off (fun k=>D.Mut k∨k=D.gr) WgM W∧∃T bar,TM D W T bar∧Lp.LexS D.m D.n D.A D.B D.C v k T (fun j=>bar j=true)) (fun s36 _=>D.n-(intOf s36).toNat)
  case atStart=>exact⟨0,by omega,rfl,Off.refl _ _,T,bar,hT3,hst⟩
  case round=>
   clear hT3 hst hway bar;obtain⟨k,hk,rfl,hoW,T,bar,hT,hst⟩:=hrel
   have hw1:IntKind.i64.wrap ((k:Int)+1)=(k:Int)+1:=by rw[IntKind.wrap_i64];omega
   by_cases hlt:k<D.n
   ·have hk0:(0:Int)≤(k:Int):=by omega
    have hk1:(k:Int)<(D.n:Int):=by omega
    have hway:=hst.way
    have hown7: ∀b,D.Mut b∨b=D.gr→b<wr.heap.size:=fun b hb=>by
     rcases hb with hb|rfl
     ·exact hT.own_lt (TD.own_mut hb)
     ·exact hT.own_lt (.inr (.inr (.inr (.inl rfl))))
    have hM7: ¬(D.Mut wr.heap.size∨wr.heap.size=D.gr):=fun hm=>by have:=hown7 _ hm;omega
    have hT1:=hT.alloc (.cells #[.int .i64 (k:Int)] 3);have b7:Rx (wr.alloc (.cells #[.int .i64 (k:Int)] 3)) wr.heap.size [.int .i64 (k:Int)]:=Rx.new wr _ rfl [.int .i64 (k:Int)] 3;have ho1:=hoW.step ((Below.refl wr.heap.size wr).alloc (Nat.le_refl _) (.cells #[.int .i64 (k:Int)] 3));have bT1:=HbT.out _ ho1;have bM1:=HbM.out _ ho1
    go_upto_region 13 with fail
    clear hT hown7;generalize wr.alloc (.cells #[.int .i64 (k:Int)] 3)=w1 at*;generalize wr.heap.size=g7 at*;have ct:=bT1.at 0 rfl;have nM7: ¬D.Mut g7:=fun h=>hM7 (.inl h);have nMM: ¬D.Mut gM:=fun h=>hMM (.inl h);have nMT: ¬D.Mut gT:=fun h=>hMT (.inl h)
    go_wp2_with fail
    clear ct
    with_reducible refine(climb_any D o T bar 68 #[] #[.pointer (some ⟨g7,0,none⟩),.pointer (some ⟨gM,0,none⟩),.pointer (some ⟨gT,0,none⟩)] (Lp.hc k) w1 hT1 hway lle_enters (lle_fn D o k _ g7 gM gT w1 hT1.tf b7 bM1 bT1 nM7 nMM nMT) (fit.hc _).s (fun i k hi=>fit.t i k hi) (fun k U hk=>fit.szT (fit.hc _) (hway.climb hk))).mono ?_
    rintro e w2 ⟨hoff,c,U,hcl,hT2,hres⟩
    have hres:(∃b,e= .returned (.bool b))∧Lp.End D.m (D.n+D.m+1) (Alw D bar) (Lp.hc k) U:=by
     rcases hres with⟨rfl,h⟩|⟨rfl,s,h⟩
     ·exact⟨⟨_,rfl⟩,h⟩
     ·exact(Lp.lex_no_free (hway.climb hcl) hlt h).elim
    obtain⟨⟨b,rfl⟩,hE⟩:=hres;have hoffM:=hoff.mono (M':=fun k=>D.Mut k∨k=D.gr) (fun k _ h=>.inl h);have ho2:=ho1.trans hoffM;have hst2:=hst.next hlt hcl hE;have hway2:=hway.climb hcl;have b72:=b7.off hoffM hM7;have bT2:=HbT.out _ ho2;have bM2:=HbM.out _ ho2;clear hT1 b7 bT1 bM1 hoff hoffM hst ho1 hE hcl;have ct:=bT2.at 0 rfl
    go_wp2_with fail
    clear ct
    with_reducible refine(bar_any D o U bar 68 #[] #[.pointer (some ⟨g7,0,none⟩),.pointer (some ⟨gM,0,none⟩),.pointer (some ⟨gT,0,none⟩)] (Lp.hc k) w2 hT2 hway2 lle_enters (lle_fn D o k _ g7 gM gT w2 hT2.tf b72 bM2 bT2 nM7 nMM nMT).none (fit.hc _).s (fun i k hi=>fit.t i k hi) (fit.szT (fit.hc _) hway2)).mono ?_
    rintro e w4 ⟨⟨v',rfl⟩,hoff,bar2,hT4,hbar⟩;have ho4:=ho2.trans (hoff.mono (M':=fun k=>D.Mut k∨k=D.gr) (fun k _ h=>.inr h));have hst4:=hst2.bar_of hbar (fun j=>Iff.rfl);clear hT2 hst2 hbar bT2 bM2 b72 hway hway2
    go_wp2_with fail
    go_roundw
    case rel=>exact⟨k+1,by omega,by go_num,ho4,U,bar2,hT4,hst4⟩
    case measure=>simp[intOf];omega
   ·obtain rfl:D.n=k:=by omega
    have hk1: ¬(D.n:Int)<(D.n:Int):=by omega
    have ct:=(HbT.out _ hoW).at 0 rfl
    go_wp2_with fail
    with_reducible refine(solution_any D o T bar wr hT hst.way.inv).mono ?_
    rintro e w5 ⟨g,rfl,hg,hrow,hb5⟩;clear ct;have hB5:=(HB0.out _ hoW).trans (hb5.mono (HB0.out _ hoW).size)
    go_wp2_with fail
    refine bodyPost_ret (v:=.tuple #[.slice (some ⟨g,0,none⟩) D.n D.n,.int .i64 0]) (by simp[results,Tryz.results33,go_sem]) rfl ?_
    exact⟨0,hB5,HO0.out,.inl ⟨rfl,_,_,_,_,_,v,rfl,⟨_,_,rfl,fun _=>⟨g,rfl,hrow.row (fun _ _=>rfl)⟩⟩,hst.done,HC0.out,_,hst.way,rfl⟩⟩
 ·have ag:=ag.alloc ag.size (.cells #[.pointer none] 72)
  go_wp2_with fail
  refine bodyPost_ret (v:=.tuple #[.slice none 0 0,.int .i64 16]) (by simp[results,Tryz.results33,go_sem]) rfl ?_
  exact⟨1,ag,hsol.out,.inr (.inl ⟨rfl,rfl⟩)⟩
 ·have ag:=ag.alloc ag.size (.cells #[.pointer none] 72)
  go_wp2_with fail
  refine bodyPost_ret (v:=.tuple #[.slice none 0 0,.int .i64 40]) (by simp[results,Tryz.results33,go_sem]) rfl ?_
  exact⟨2,ag,hsol.out,.inr (.inr ⟨rfl,rfl⟩)⟩
end Go.Proofs.YtinmmkcjjlconaaGreat
namespace Go.Proofs.YtinmmkcjjlconaaGreat
open Go.RowKit W
open Pl (nb)
open Lp (S Q Cert Out Feas grow)
structure LexU (m n:Nat) (A:Nat→Nat→Rat) (B C:Nat→Rat) (k:Nat) (ec:Int) (nx:Nat) (v:Rat) (z:Nat→Rat):Prop where
  out:Out m n A B C k
  ec:ec=ecOf k
  ok:k=0→nx=n∧Lp.Lex m n A B C v z∧∃x y,Cert m n A B C x y v
  no:k≠0→nx=0
  way:(∃T,Lp.Way m n A B T∧z=Lp.bsol m T)∨z=fun _=>0
  val:v=S n (fun c=>C c*z c)
theorem lex_u {m n:Nat} {A:Nat→Nat→Rat} {B C:Nat→Rat} (hmn:m+n≤90) (ft:Fits m n A B C) (a0 a1 a2:Option Addr) (c0 c1 c2:Nat) (w:World) (h:PR w (.agg #[.slice a0 m c0,.slice a1 m c1,.slice a2 n c2]) m n A B C):
  Calls Tryz.prog 33 #[.agg #[.slice a0 m c0,.slice a1 m c1,.slice a2 n c2]] w fun e w'=> ∃k ec ax nx cx v z,e= .returned (.tuple #[.slice ax nx cx,.int .i64 ec])∧LexU m n A B C k ec nx v z∧SlR w' (.slice ax nx cx) nx z∧Below w.heap.size w w':=
 (lex_any m n A B C a0 a1 a2 c0 c1 c2 w h hmn ft).mono (by
  rintro e w' ⟨k,hk⟩;obtain⟨hb,hout,hres⟩:=hk.ex;have hz:(0:Rat)=S n (fun c=>C c*(fun _:Nat=>(0:Rat)) c):=(Lp.S_eq0 (fun c _=>Rat.mul_zero _)).symm
  rcases hres with⟨rfl,a,c,z,X,Y,v,rfl,hs,hl,hc,hw⟩|⟨rfl,rfl⟩|⟨rfl,rfl⟩
  ·exact⟨0,0,a,n,c,v,z,rfl,⟨hout,rfl,fun _=>⟨rfl,hl,X,Y,hc⟩,fun h=>(h rfl).elim,.inl hw,hl.val.symm⟩,hs,hb⟩
  ·exact⟨1,16,none,0,0,0,fun _=>0,rfl,⟨hout,rfl,fun h=>(by cases h),fun _=>rfl,.inr rfl,hz⟩,⟨_,_,rfl,fun h=>(by omega)⟩,hb⟩
  ·exact⟨2,40,none,0,0,0,fun _=>0,rfl,⟨hout,rfl,fun h=>(by cases h),fun _=>rfl,.inr rfl,hz⟩,⟨_,_,rfl,fun h=>(by omega)⟩,hb⟩)
theorem LexU.le {m n:Nat} {A:Nat→Nat→Rat} {B C:Nat→Rat} {k nx:Nat} {ec:Int} {v:Rat} {z:Nat→Rat} (h:LexU m n A B C k ec nx v z):nx≤n:=by
 by_cases e:k=0
 ·obtain⟨rfl,_⟩:=h.ok e
  exact Nat.le_refl _
 ·rw[h.no e]
  exact Nat.zero_le _
theorem lexu_q (zs:List Int) (m n:Nat) (hm:m≤6) (hn:n≤6) {k nx:Nat} {ec:Int} {v:Rat} {z:Nat→Rat} (hl:LexU m n (plA zs n) (plB zs n) (plC zs m n) k ec nx v z):
  (∀j,j<n→Fits (m+1+j) n (Lp.lexA m (plA zs n) (plC zs m n)) (Lp.lexB m (plB zs n) v z) (Lp.lexC j)∧FitR (m+1+j) n (Lp.lexA m (plA zs n) (plC zs m n)) (Lp.lexB m (plB zs n) v z) (Lp.lexC j))∧(∀j,j<n→Sz (z j) 40000)∧Sz v 40000:=by
 have hq: ∃E G,0<E∧E≤G∧G≤grow (n+1) 204∧∀i,Q E G (z i):=by
  rcases hl.way with⟨T,hw,rfl⟩|rfl
  ·obtain⟨E,h1,h2,h3⟩:=(plan_small zs m n).lexQ hw
   exact⟨E,_,h1,h2,Nat.le_refl _,h3⟩
  ·exact⟨1,204,by decide,by decide,Lp.grow_mono (k:=0) (Nat.zero_le _) (Nat.le_refl _),fun _=>Q.zero _ _⟩
 have h:=lexi_fits zs m n hm hn z hq
 rwa [←hl.val] at h
theorem rlex_u (zs:List Int) (m n:Nat) (hm:m≤6) (hn:n≤6) {k nx:Nat} {ec:Int} {v:Rat} {z:Nat→Rat} (hl:LexU m n (plA zs n) (plB zs n) (plC zs m n) k ec nx v z) (a0 a1 a2:Option Addr) (c0 c1 c2:Nat) (w:World) (h:PR w (.agg #[.slice a0 m c0,.slice a1 m c1,.slice a2 n c2]) m n (plA zs n) (plB zs n) (plC zs m n)):
  Calls Tryz.prog 34 #[.agg #[.slice a0 m c0,.slice a1 m c1,.slice a2 n c2]] w fun e w'=> ∃ay cy,e= .returned (.tuple #[.slice ay nx cy,.int .i64 ec])∧SlR w' (.slice ay nx cy) nx z∧Below w.heap.size w w':=by
 obtain⟨f1,f2,f3⟩:=lexu_q zs m n hm hn hl
 refine(rlex_any m n _ _ _ a0 a1 a2 c0 c1 c2 v z w h (by omega) (plan_fits zs m n hm hn) (plan_fitR zs m n hm) ?_ ?_ f1 f2 f3).mono ?_
 ·intro X Y q hc
  have e:k=0:=hl.out.unique (.ok hc);obtain⟨_,_,x,y,h2⟩:=hl.ok e
  exact hc.unique h2
 ·intro ho
  have e:k=0:=hl.out.unique ho;obtain⟨_,h1,x,y,h2⟩:=hl.ok e
  exact⟨h1,fun x' hx'=>h2.vy▸Lp.weak hx' h2.py⟩
 ·rintro e w' ⟨k',hk⟩
  obtain⟨hb,hout,hres⟩:=hk.ex;obtain rfl:=hl.out.unique hout
  rcases hres with⟨rfl,a,c,rfl,hs⟩|⟨rfl,rfl⟩|⟨rfl,rfl⟩
  ·obtain⟨rfl,_⟩:=hl.ok rfl
   obtain rfl:=hl.ec
   exact⟨a,c,rfl,hs,hb⟩
  ·obtain rfl:=hl.no (by decide)
   obtain rfl:=hl.ec
   exact⟨none,0,rfl,⟨_,_,rfl,fun h=>(by omega)⟩,hb⟩
  ·obtain rfl:=hl.no (by decide)
   obtain rfl:=hl.ec
   exact⟨none,0,rfl,⟨_,_,rfl,fun h=>(by omega)⟩,hb⟩
theorem turn_of' {m n:Nat} {A A1:Nat→Nat→Rat} {B B1 C:Nat→Rat} {f:Rat} (hf:0<f) {a b:Nat} (ha:a<m) (hb:b<m) (hA:A1=fun i=>A (Lp.swp a b i)) (hB:B1=fun i=>B (Lp.swp a b i))
  (ft:Fits m n (upd (fun i=>A (Lp.swp a b i)) a (fun j=>A b j*f)) (upd (fun i=>B (Lp.swp a b i)) a (B b*f)) C):
  Turn m n A B C (upd A1 a (fun j=>A1 a j*f)) (upd B1 a (B1 a*f))∧Fits m n (upd A1 a (fun j=>A1 a j*f)) (upd B1 a (B1 a*f)) C:=by
 subst hA hB
 have e:Lp.swp a b a=b:=by unfold Lp.swp;rw[if_pos rfl]
 dsimp only
 rw[e]
 exact⟨turn_of hf ha hb,ft⟩
theorem copy_at2 {wb W:World} {T2:Nat→Thing} {m n:Nat} {A:Nat→Nat→Rat} {B C:Nat→Rat} {vA vB vC:Value} {rv_:Nat→Value} (h:Sep wb W T2) (hp:Parts m n A B C vA vB vC rv_ T2) (cs:List Value) (t:TypeId):
    ∃T,Sep wb (W.alloc (.cells cs.toArray t)) T∧T 8=boxT W.heap.size cs∧Parts m n A B C vA vB vC rv_ (fun j=>T (3*j+2)):=by
  have h2:Sep wb W (fun x=>if x %3=2 then T2 (x/3) else nothing):= {
    acc:=h.acc
    p :=fun i=>by
      show Thing.P (if _ then _ else _) W
      split
      ·exact h.p _
      ·trivial
    o :=fun i b hb=>by
      have hb:Thing.O (if i %3=2 then T2 (i/3) else nothing) b:=hb
      split at hb
      ·exact h.o _ b hb
      ·exact hb.elim
    d :=fun i j hne b h1 h2=>by
      have h1:Thing.O (if i %3=2 then T2 (i/3) else nothing) b:=h1;have h2:Thing.O (if j %3=2 then T2 (j/3) else nothing) b:=h2
      split at h1
      · split at h2
        ·exact h.d _ _ (by omega) b h1 h2
        ·exact h2.elim
      ·exact h1.elim}
  refine⟨_,h2.overbox 8 cs t,upd_same _ _ _,?_,?_,?_,fun i hi=>?_⟩
  ·exact upd_o (by omega) ((if_pos (by omega)).trans hp.b)
  ·exact upd_o (by omega) ((if_pos (by omega)).trans hp.c)
  ·exact upd_o (by omega) ((if_pos (by omega)).trans hp.a)
  ·exact upd_o (by omega) ((if_pos (by omega)).trans ((congrArg T2 (by omega:(3*(4+i)+2)/3=4+i)).trans (hp.r i hi)))
theorem LexU.turn {m n:Nat} {A A':Nat→Nat→Rat} {B B' C:Nat→Rat} {k k' nx nx':Nat} {ec ec':Int} {v v':Rat} {z z':Nat→Rat} (h:LexU m n A B C k ec nx v z) (ht:Turn m n A B C A' B') (h':LexU m n A' B' C k' ec' nx' v' z'):
  ec'=ec∧nx=nx'∧∀i,i<nx→z i=z' i:=by
 obtain rfl:=(ht.out _ h.out).unique h'.out
 refine⟨h'.ec.trans h.ec.symm,?_⟩
 by_cases e:k=0
 ·obtain⟨rfl,h1,x,y,hc⟩:=h.ok e
  obtain⟨rfl,h2,x',y',hc'⟩:=h'.ok e;obtain⟨x2,y2,hc2⟩:=ht.cert _ _ _ hc;obtain rfl:=hc2.unique hc'
  exact⟨rfl,h1.same (h2.of_feas fun x=>ht.feas x) _ (Nat.le_refl _)⟩
 ·rw[h.no e,h'.no e]
  exact⟨rfl,fun i hi=>by omega⟩
end Go.Proofs.YtinmmkcjjlconaaGreat
namespace Go.Proofs.YtinmmkcjjlconaaGreat
open Go.RowKit W
open Pl (nb bv bv_nb nb_size_zero)
open Lp (S S_succ Cert Out)
theorem sgn_no {p q:Rat} (h:p≤q): ¬(0:Int)<Rq.sgn (p-q):=fun h0=>by
 have:0<p-q:=sgn_pos.1 h0
 grind
theorem sgn_nn {q:Rat} (h:0≤q): ¬Rq.sgn q<(0:Int):=fun h0=>by
 have:q<0:=sgn_neg'.1 h0
 grind
theorem S_sz' {n:Nat} {F G:Nat→Rat} (hn:n≤400) (sF: ∀i,i<n→Sz (F i) 40000) (sG: ∀i,i<n→Sz (G i) 40000):Sz (S n (fun i=>F i*G i)) 33554432:=by
 refine(Sz_S (k:=80000) (fun j hj=>Sz_mul (sF j hj) (sG j hj)) n (Nat.le_refl _)).mono ?_
 have:=Nat.mul_le_mul_left 80001 hn
 omega
theorem lexi_walk (r c:Int) (hr:0≤r∧r≤255) (hc:0≤c∧c≤255) (v:Value) (zs:List Int) (x y wh:Int) (w:World) (h:IntsK .i16 w v zs) (bx:0≤x∧x≤255) (by':0≤y∧y≤255) (bw0:0≤wh) (bw1:wh≤255):
  Calls Tryz.prog 11 #[.agg #[.int .u8 r,.int .u8 c,v],.agg #[.int .u8 x,.int .u8 y],.int .u8 wh] w fun e w'=>e= .returned (.bool true)∧Below w.heap.size w w':=by
 obtain⟨m,hm⟩: ∃m:Nat,(m:Int)=r %7:=⟨(r %7).toNat,by omega⟩
 obtain⟨n,hn⟩: ∃n:Nat,(n:Int)=c %7:=⟨(c %7).toNat,by omega⟩
 have hm6:m≤6:=by omega
 have hn6:n≤6:=by omega
 have HSan:=Lib.hid (fun W=>lsanity_any W);have HMk:=Lib.hid (fun W (hb:Below w.heap.size w W)=>make_c r c hr hc v zs W (h.below hb) m n hm hn);have ft:=plan_fits zs m n hm6 hn6;have HRx:=Lib.hid (fun k nx ec v z hl a0 a1 a2 c0 c1 c2 W h=>rlex_u zs m n hm6 hn6 (k:=k) (nx:=nx) (ec:=ec) (v:=v) (z:=z) hl a0 a1 a2 c0 c1 c2 W h);have HSz:=Lib.hid (fun k nx ec v z hl=>(lexu_q zs m n hm6 hn6 (k:=k) (nx:=nx) (ec:=ec) (v:=v) (z:=z) hl).2)
 have HFt:=Lib.hid (fun a b (ha:a<m) (hb:b<m)=>turn_fits zs m n hm6 hn6 ha hb bw0 bw1);generalize plA zs n=A at*;generalize plB zs n=B at*;generalize plC zs m n=C at*
 have HLx:=Lib.hid (fun a0 a1 a2 c0 c1 c2 W h=>lex_u (by omega) ft a0 a1 a2 c0 c1 c2 W h)
 have HLt:=Lib.hid (fun A' B' (ft:Fits m n A' B' C) a0 a1 a2 c0 c1 c2 W h=>lex_u (by omega) ft a0 a1 a2 c0 c1 c2 W h)
 have HSo:=Lib.hid (fun W p h=>solve_u ft p W h)
 have hf0:(0:Rat)<((1+wh:Int):Rat):=by
  have h0:(0:Int)<1+wh:=by omega
  exact_mod_cast h0
 have sf:Sz ((1+wh:Int):Rat) 40000:=(Sz_int (by omega) (by omega)).mono (by decide)
 have HOf:=Lib.hid (fun W=>rof2_any (1+wh) W (by omega) (by omega))
 generalize ((1+wh:Int):Rat)=f at*
 have HMu:=Lib.hid (fun(q:Rat) W (h:Sz q 40000)=>rmul2_any q f W (h.mono (by decide)) (sf.mono (by decide)))
 have sA:=ft.s.a;have sB:=ft.s.b;have sC:=ft.s.c;have HF0:=Lib.hid ft;have HDo:=Lib.hid (fun a b k k2 ca cb F G W h1 h2 h3 h4 h5 h6 h7=>rdot_any a b k k2 ca cb F G W h1 h2 h3 h4 h5 h6 h7);have HCm:=Lib.hid (fun p q W h1 h2=>rcmp2_any p q W h1 h2);have HSg:=Lib.hid (fun q W h=>rsign2_any q W h)
 have w1:IntKind.i64.wrap x=x:=by rw[IntKind.wrap_i64];omega
 have w2:IntKind.i64.wrap y=y:=by rw[IntKind.wrap_i64];omega
 have w3:IntKind.i64.wrap wh=wh:=by rw[IntKind.wrap_i64];omega
 have w4:IntKind.i64.wrap (1+wh)=1+wh:=by rw[IntKind.wrap_i64];omega
 clear h hm hn;clear ft
 simp only[rv] at HOf HMu HDo HCm HSg
 go_enter Tryz.func11,Tryz.ntmps11
 have⟨bL,bq,ag⟩:=opn2 w [.int .u8 r,.int .u8 c,v] [.int .u8 x,.int .u8 y] 24 59
 go_upto_region 1 with fail
 generalize (w.alloc (.cells #[.int .u8 r,.int .u8 c,v] 24)).alloc (.cells #[.int .u8 x,.int .u8 y] 59)=W0 at*;generalize hgq:w.heap.size+1=gq at*;obtain⟨gL,hgL⟩: ∃g,g=w.heap.size:=⟨_,rfl⟩;rw[←hgL] at bL
 simp only[←hgL]
 have ngLgq:gL≠gq:=by omega
 have kgL:w.heap.size≤gL:=by omega
 have kgq:w.heap.size≤gq:=by omega
 clear hgL hgq
 go_wp2_with fail
 with_reducible refine(HSan.out _).mono ?_
 rintro e wX ⟨rfl,am⟩;replace ag:=ag.tr am;replace bL:=bL.below am;replace bq:=bq.below am;clear am;have⟨cL0,fL0,cL1,fL1,cL2,fL2⟩:=bL.all3
 go_wp2_with fail
 clear cL0 fL0 cL1 fL1 cL2 fL2
 with_reducible refine(HMk.out _ ag).mono ?_
 rintro e wP ⟨a0,c0,a1,c1,a2,c2,rfl,hP,am⟩;replace ag:=ag.tr am;replace bL:=bL.below am;replace bq:=bq.below am;clear am;have HP:=Lib.hid (fun W (hb:Acc wP W)=>hP.below hb.out);clear hP;have hacP:=Acc.refl wP;have hacP_kgp:=hacP.k;replace hacP:=hacP.alloc (.cells #[.slice a0 m c0,.slice a1 m c1,.slice a2 n c2] 29);have kgp:=ag.size
 replace ag:=ag.alloc ag.size (.cells #[.slice a0 m c0,.slice a1 m c1,.slice a2 n c2] 29);have dgL:=bL.lt;have dgq:=bq.lt;replace bL:=bL.alloc (.cells #[.slice a0 m c0,.slice a1 m c1,.slice a2 n c2] 29);replace bq:=bq.alloc (.cells #[.slice a0 m c0,.slice a1 m c1,.slice a2 n c2] 29);have bp:Rx (wP.alloc (.cells #[.slice a0 m c0,.slice a1 m c1,.slice a2 n c2] 29)) wP.heap.size [.slice a0 m c0,.slice a1 m c1,.slice a2 n c2]:=Rx.new wP _ rfl [.slice a0 m c0,.slice a1 m c1,.slice a2 n c2] 29
 go_upto_region 3 with fail
 generalize wP.heap.size=gp at*;generalize wP.alloc (.cells #[.slice a0 m c0,.slice a1 m c1,.slice a2 n c2] 29)=Wgp at*
 have ngLgp:gL≠gp:=by omega
 have ngqgp:gq≠gp:=by omega
 clear dgL dgq;have⟨cp0,fp0,cp1,fp1,cgp2,fp2⟩:=bp.all3
 go_wp2_with fail
 clear cp0 fp0 cp1 fp1 cgp2 fp2
 with_reducible refine(HLx.out _ _ _ _ _ _ _ (HP.out _ hacP)).mono ?_
 rintro e wX ⟨k,ec,ax,nx,cx,v',z,rfl,hL,hX,am⟩;replace ag:=ag.tr am;replace hacP:=hacP.below am;replace bL:=bL.below am;replace bq:=bq.below am;replace bp:=bp.below am;clear am;have HLU:=Lib.hid hL;clear hL;have HX:=Lib.hid (fun W (hb:Acc wX W)=>hX.below hb.out);clear hX;have hacX:=Acc.refl wX;have⟨cp0,fp0,cp1,fp1,cgp2,fp2⟩:=bp.all3
 go_wp2_with fail
 clear cp0 fp0 cp1 fp1 cgp2 fp2
 with_reducible refine(HRx.out _ _ _ _ _ HLU.out _ _ _ _ _ _ _ (HP.out _ hacP)).mono ?_
 rintro e wX ⟨ay,cy,rfl,hY,am⟩;replace ag:=ag.tr am;replace hacP:=hacP.below am;replace hacX:=hacX.below am;replace bL:=bL.below am;replace bq:=bq.below am;replace bp:=bp.below am;clear am;have HY:=Lib.hid (fun W (hb:Acc wX W)=>hY.below hb.out);clear hY;have hacY:=Acc.refl wX;have⟨cp0,fp0,cp1,fp1,cgp2,fp2⟩:=bp.all3
 go_wp2_with fail
 clear cp0 fp0 cp1 fp1 cgp2 fp2
 with_reducible refine(HSo.out _ _ (HP.out _ hacP)).mono ?_
 rintro e wX ⟨k2,b0,l0,d0,b1,l1,d1,tb,tt,tu,p,ec2,rfl,hU,am⟩;replace ag:=ag.tr am;replace hacP:=hacP.below am;replace hacX:=hacX.below am;replace hacY:=hacY.below am;replace bL:=bL.below am;replace bq:=bq.below am;replace bp:=bp.below am;clear am;obtain rfl:=HLU.out.out.unique hU.out;obtain rfl:ec=ec2:=HLU.out.ec.trans hU.ec.symm
 have HU:=Lib.hid hU;clear hU;have hacP_kgs:=hacP.k;replace hacP:=hacP.alloc (.cells #[.slice b0 l0 d0,.slice b1 l1 d1,.bool tb,.string tt,.string tu] 35);have hacX_kgs:=hacX.k;replace hacX:=hacX.alloc (.cells #[.slice b0 l0 d0,.slice b1 l1 d1,.bool tb,.string tt,.string tu] 35);have hacY_kgs:=hacY.k;replace hacY:=hacY.alloc (.cells #[.slice b0 l0 d0,.slice b1 l1 d1,.bool tb,.string tt,.string tu] 35)
 have kgs:=ag.size;replace ag:=ag.alloc ag.size (.cells #[.slice b0 l0 d0,.slice b1 l1 d1,.bool tb,.string tt,.string tu] 35);have dgL:=bL.lt;have dgq:=bq.lt;have dgp:=bp.lt;replace bL:=bL.alloc (.cells #[.slice b0 l0 d0,.slice b1 l1 d1,.bool tb,.string tt,.string tu] 35);replace bq:=bq.alloc (.cells #[.slice b0 l0 d0,.slice b1 l1 d1,.bool tb,.string tt,.string tu] 35)
 replace bp:=bp.alloc (.cells #[.slice b0 l0 d0,.slice b1 l1 d1,.bool tb,.string tt,.string tu] 35);have bs:Rx (wX.alloc (.cells #[.slice b0 l0 d0,.slice b1 l1 d1,.bool tb,.string tt,.string tu] 35)) wX.heap.size [.slice b0 l0 d0,.slice b1 l1 d1,.bool tb,.string tt,.string tu]:=Rx.new wX _ rfl [.slice b0 l0 d0,.slice b1 l1 d1,.bool tb,.string tt,.string tu] 35
 go_upto_region 6 with fail
 generalize wX.heap.size=gs at*;generalize wX.alloc (.cells #[.slice b0 l0 d0,.slice b1 l1 d1,.bool tb,.string tt,.string tu] 35)=Wgs at*
 have ngLgs:gL≠gs:=by omega
 have ngqgs:gq≠gs:=by omega
 have ngpgs:gp≠gs:=by omega
 clear dgL dgq dgp;have hnx:nx≤n:=HLU.out.le
 have hEq:=equal_any ax ay nx nx cx cy z z Wgs (HX.out _ hacX) (HY.out _ hacY) (by omega)
 go_wp2_with fail
 with_reducible refine(hEq).mono ?_
 rintro e wX ⟨hr,am⟩;replace ag:=ag.tr am;replace hacP:=hacP.below am;replace hacX:=hacX.below am;replace hacY:=hacY.below am;replace bL:=bL.below am;replace bq:=bq.below am;replace bp:=bp.below am;replace bs:=bs.below am;clear am;obtain⟨r_,rfl,hr1⟩:=hr.ex;obtain rfl:r_=true:=hr1.2 ⟨rfl,fun _ _=>rfl⟩;clear hr hr1;have HB0:=Lib.hid (fun W' (hb:Below wX.heap.size wX W')=>ag.tr hb)
 have HPb:=Lib.hid (fun W' (hb:Below wX.heap.size wX W')=>HP.out _ (hacP.below hb));have HXb:=Lib.hid (fun W' (hb:Below wX.heap.size wX W')=>HX.out _ (hacX.below hb));have Hbp:=Lib.hid (fun W' (hb:Below wX.heap.size wX W')=>bp.below hb);have Hbq:=Lib.hid (fun W' (hb:Below wX.heap.size wX W')=>bq.below hb);have Hbs:=Lib.hid (fun W' (hb:Below wX.heap.size wX W')=>bs.below hb)
 clear ag hacP hacX hacY bL bq bp bs;obtain⟨wB,hwB⟩: ∃wB,wB=wX:=⟨_,rfl⟩
 simp only[←hwB] at*
 clear hwB;have hr0:=Below.refl wB.heap.size wB;have kb:=Hbp.out _ hr0;have k0:=kb.at 0 rfl;have k1:=kb.at 1 rfl;have k2:=kb.at 2 rfl;clear kb
 go_wp2_with fail
 clear k0 k1 k2
 have HCp:=copyS_any (.agg #[.slice a0 m c0,.slice a1 m c1,.slice a2 n c2]) m n A B C wB (HPb.out _ hr0) (by omega) (by omega)
 with_reducible refine HCp.mono ?_
 clear HCp hr0;rintro e wX ⟨x20,y20,x21,y21,x22,y22,rfl,rv2,T2,hS2,hp2⟩;obtain⟨T',hS,tb2,hpc⟩:=copy_at2 hS2 hp2 [.slice x20 m y20,.slice x21 m y21,.slice x22 n y22] 29;clear hS2 hp2;have hp2:=hpc;clear hpc
 go_upto_region 9 with fail
 generalize wX.heap.size=gr at*;generalize wX.alloc (.cells #[.slice x20 m y20,.slice x21 m y21,.slice x22 n y22] 29)=W at*;have kb:=(hS.box tb2).at 0 rfl
 go_upto_if 63 with fail
 clear kb
 go_cut [17,18,19] from 63 to 153 (fun _ _ _ wx=> ∃UU rw_ A' B',Sep wB wx UU∧UU 8=boxT gr [.slice x20 m y20,.slice x21 m y21,.slice x22 n y22]∧Parts m n A' B' C (.slice x20 m y20) (.slice x21 m y21) (.slice x22 n y22) rw_ (fun j=>UU (3*j+2))∧Turn m n A B C A' B'∧Fits m n A' B' C)
 case first=>
  by_cases hm0:m=0
  ·have hm1: ¬(0:Int)<(m:Int):=by omega
   clear hm0
   go_wp2_with fail
   go_meet
   exact⟨T',rv2,A,B,hS,tb2,hp2,Turn.refl m n A B C,HF0.out⟩
  ·have hmi:(0:Int)<(m:Int):=by omega
   have hmne: ¬(m:Int)=0:=by omega
   obtain⟨i1,i2,H1,H2,HI⟩:=sw_of m bx.1 by'.1
   have hI:i1<m∧i2<m:=by
    rcases HI with h1|⟨h1,_⟩
    ·exact h1
    ·omega
   obtain⟨h1,h2⟩:=hI
   have q1:Int.tmod x (m:Int)=(i1:Int):=(H1 (by omega)).symm
   have q2:Int.tmod y (m:Int)=(i2:Int):=(H2 (by omega)).symm
   have b10:(0:Int)≤(i1:Int):=by omega
   have b11:(i1:Int)<(m:Int):=by omega
   have b20:(0:Int)≤(i2:Int):=by omega
   have b21:(i2:Int)<(m:Int):=by omega
   have w6:IntKind.i64.wrap (i1:Int)=(i1:Int):=by rw[IntKind.wrap_i64];omega
   have w7:IntKind.i64.wrap (i2:Int)=(i2:Int):=by rw[IntKind.wrap_i64];omega
   clear H1 H2 HI
   go_upto_region 11 with fail
   replace hS:=hS.drew
   refine wp_schH (S:=fun w'=>w'.cell? ⟨gq,0,none⟩=some (.int .u8 x)∧w'.cell? ⟨gq,1,none⟩=some (.int .u8 y)) (hc:=by as_aux_lemma=>kernel_rfl) (.p 0 (.p 1 (.p 2 (.p 3 (.p 4 (.p 5 (.p 6 (.p 7 (.p 8 (.p 9 (.p 10 (.p 11 .e)))))))))))) [4,16] fun zA WD hA aq=>?_
   simp only[←aq.out] at hS
   clear aq
   refine⟨⟨(Hbq.out _ hS.acc).at 0 rfl,(Hbq.out _ hS.acc).at 1 rfl⟩,fun hS0=>?_⟩
   repeat' first
    |((with_reducible refine isP ?_);refine tkO ?_)
   refine enP hA ?_
   clear hA;obtain⟨_,_,eA,hA1⟩:=(hS.vals hp2.a).form
   obtain⟨ba,rfl⟩: ∃g,x20=some ⟨g,0,none⟩:=by
    obtain⟨g,e1,_⟩:=hA1 (by simpa using hmi)
    simp only[Value.slice.injEq] at eA
    exact⟨g,eA.1.trans e1⟩
   clear eA hA1;obtain⟨bb,rfl,_⟩:=(hS.lst hp2.b).slr.get h1;obtain⟨aI,cI,eI⟩:=(hS.lst (hp2.r i1 h1)).form;obtain⟨aJ,cJ,eJ⟩:=(hS.lst (hp2.r i2 h2)).form;rw[raws_len] at eI eJ;have HEI:=Lib.hid eI;have HEJ:=Lib.hid eJ;clear eI eJ;have ta:T' 11=valsT (.slice (some ⟨ba,0,none⟩) m y20) ((List.range m).map rv2):=hp2.a
   go_upto_region 12 with fail
   go_cut [91] from 63 to 91 (fun _ wx=> ∃U,Sep wB wx U∧(∀z,z≠11→U z=T' z)∧U 11=valsT (.slice (some ⟨ba,0,none⟩) m y20) ((List.range m).map (fun i=>rv2 (Lp.swp i1 i2 i))))
   case first=>
    replace hS:=hS.drew
    refine wp_schH (S:=fun w'=>w'.cell? ⟨gr,0,none⟩=some (.slice (some ⟨ba,0,none⟩) m y20)) (hc:=by as_aux_lemma=>kernel_rfl) (.p 0 (.p 1 (.p 2 (.p 3 (.p 4 (.p 5 (.p 6 (.p 7 (.p 8 (.p 9 (.p 11 (.p 12 (.p 13 (.p 14 (.b (.c 10 (.c 15 (.p 16 (.c 17 (.p 18 (.c 19 .e)))))) (.c 15 (.c 10 (.p 16 (.c 17 (.p 18 (.c 19 .e))))))))))))))))))))) [15,17,18] fun zA WD hA aq=>?_
    simp only[←aq.out] at hS
    clear aq
    refine⟨(hS.box tb2).at 0 rfl,fun hS0=>?_⟩
    repeat' first
     |((with_reducible refine isP ?_);refine tkO ?_)
     |(
      with_reducible refine isB2 (i:=10) (j:=15) ?_
      have ka:=hS.rowat ta (vals_at h2);have kb:=hS.rowat ta (vals_at h1);rw[HEJ.out] at ka;rw[HEI.out] at kb
      refine ld2W (i:=10) (j:=15) ka kb ((hS.box tb2).at 0 rfl) ?_
      clear ka kb)
     |(with_reducible refine brO ?_ ?_)
     |(
      with_reducible refine isC (i:=17) ?_
      refine stV (i:=17) (x:=11) (j:=i1) hS ta (vals_at h1) fun ws hz=>?_
      replace hS:=hz;clear hz;rw[vals_set h1] at hS
      refine⟨(hS.box (upd_o (by omega) tb2)).at 0 rfl,?_⟩)
     |(
      with_reducible refine isC (i:=19) ?_
      refine stV (i:=19) (x:=11) (j:=i2) hS (upd_same _ _ _) (vals_at h2) fun ws hz=>?_
      replace hS:=hz;clear hz;rw[vals_set h2,upd_upd] at hS
      refine⟨(hS.box (upd_o (by omega) tb2)).at 0 rfl,?_⟩)
    all_goals(
     refine enP hA ?_
     clear hA;rw[←HEI.out,←HEJ.out,upd_swp] at hS;obtain⟨U,hS,hk,h3⟩:=hS.gen1
     go_wp2_with fail
     go_meet
     exact⟨U,hS,hk,h3⟩)
   case rest=>
    clear hS HEI HEJ;obtain⟨U,hS,hk,h11⟩:=hcut
    have te:U 2=listT (.slice (some ⟨bb,0,none⟩) m y21) (raws m B):=(hk 2 (by decide)).trans hp2.b
    have tb2':=(hk 8 (by decide)).trans tb2
    go_upto_region 13 with fail
    go_cut [109] from 63 to 109 (fun _ wx=> ∃UU rw_,Sep wB wx UU∧UU 8=boxT gr [.slice (some ⟨ba,0,none⟩) m y20,.slice (some ⟨bb,0,none⟩) m y21,.slice x22 n y22]∧Parts m n (fun i=>A (Lp.swp i1 i2 i)) (fun i=>B (Lp.swp i1 i2 i)) C (.slice (some ⟨ba,0,none⟩) m y20) (.slice (some ⟨bb,0,none⟩) m y21) (.slice x22 n y22) rw_ (fun j=>UU (3*j+2)))
    case first=>
     replace hS:=hS.drew
     refine wp_schH (S:=fun w'=>w'.cell? ⟨gr,1,none⟩=some (.slice (some ⟨bb,0,none⟩) m y21)) (hc:=by as_aux_lemma=>kernel_rfl) (.p 0 (.p 1 (.p 2 (.p 3 (.p 4 (.p 5 (.p 6 (.p 7 (.p 8 (.p 9 (.p 11 (.p 12 (.p 13 (.p 14 (.b (.c 10 (.c 15 (.p 16 (.c 17 (.p 18 (.c 19 .e)))))) (.c 15 (.c 10 (.p 16 (.c 17 (.p 18 (.c 19 .e))))))))))))))))))))) [15,17,18] fun zA WD hA aq=>?_
     simp only[←aq.out] at hS
     clear aq
     refine⟨(hS.box tb2').at 1 rfl,fun hS0=>?_⟩
     repeat' first
      |((with_reducible refine isP ?_);refine tkO ?_)
      |(
       with_reducible refine isB2 (i:=10) (j:=15) ?_
       refine ld2W (i:=10) (j:=15) (hS.e3 te h2) (hS.e3 te h1) ((hS.box tb2').at 1 rfl) ?_)
      |(with_reducible refine brO ?_ ?_)
      |(
       with_reducible refine isC (i:=17) ?_
       refine stL (i:=17) (x:=2) (B i2) hS te h1 fun ws hz=>?_
       replace hS:=hz;clear hz
       refine⟨(hS.box (upd_o (by omega) tb2')).at 1 rfl,?_⟩)
      |(
       with_reducible refine isC (i:=19) ?_
       refine stL (i:=19) (x:=2) (B i1) hS (upd_same _ _ _) h2 fun ws hz=>?_
       replace hS:=hz;clear hz;rw[upd_upd] at hS
       refine⟨(hS.box (upd_o (by omega) tb2')).at 1 rfl,?_⟩)
     all_goals(
      refine enP hA ?_
      clear hA;rw[upd_swp] at hS;obtain⟨V2,hS,hk2,h3⟩:=hS.gen1;have hS2:=hS.perm (sg i1 i2) (sg_sg i1 i2)
      have hpS:=parts_swp (U:=V2) hp2 h1 h2 (fun z e1 e2=>(hk2 z e2).trans (hk z e1)) ((hk2 11 (by decide)).trans h11) h3
      have h8:V2 (sg i1 i2 8)=boxT gr [.slice (some ⟨ba,0,none⟩) m y20,.slice (some ⟨bb,0,none⟩) m y21,.slice x22 n y22]:=by rw[sg_o (by omega)];exact(hk2 8 (by decide)).trans tb2'
      clear hS hk hk2 h3 te h11
      go_wp2_with fail
      go_meet
      exact⟨_,_,hS2,h8,hpS⟩)
    case rest=>
     clear hS hk te h11 tb2' tb2 ta hp2;obtain⟨T',rv2,hS,tb2,hp2⟩:=hcut;obtain⟨A1,hA1⟩: ∃A1,A1=fun i=>A (Lp.swp i1 i2 i):=⟨_,rfl⟩;obtain⟨B1,hB1⟩: ∃B1,B1=fun i=>B (Lp.swp i1 i2 i):=⟨_,rfl⟩;rw[←hA1,←hB1] at hp2;have HTF:=Lib.hid (turn_of' (C:=C) hf0 h1 h2 hA1 hB1 (HFt.out i1 i2 h1 h2))
     have hsA: ∀j,j<n→Sz (A1 i1 j) 40000:=fun j hj=>by rw[hA1];exact sA _ j (Lp.swp_lt h1 h2 h1) hj
     have hsB:Sz (B1 i1) 40000:=by rw[hB1];exact sB _ (Lp.swp_lt h1 h2 h1)
     clear hA1 hB1;have ta:T' 11=valsT (.slice (some ⟨ba,0,none⟩) m y20) ((List.range m).map rv2):=hp2.a;have te:=hp2.r i1 h1;obtain⟨xq,yq,eq⟩:=(hS.lst te).form;rw[raws_len] at eq;have HEQ:=Lib.hid eq;have te:T' (3*(4+i1)+2)=listT (.slice xq n yq) (raws n (A1 i1)):=eq▸te;have ka:=hS.rowat ta (vals_at h1);rw[eq] at ka;have kb:=(hS.box tb2).at 0 rfl
     clear eq
     go_wp2_with fail
     clear ka kb
     go_loopw [116] (fun s116 wr=> ∃j:Nat,j≤n∧s116= .int .i64 (j:Int)∧∃U,Sep wB wr U∧(∀z,z≠3*(4+i1)+2→U z=T' z)∧U (3*(4+i1)+2)=listT (.slice xq n yq) (raws n (pre (A1 i1) f j))) (fun s116 _=>n-(intOf s116).toNat)
     case atStart=>exact⟨0,by omega,rfl,T',hS,fun _ _=>rfl,by rw[pre_zero];exact te⟩
     case round=>
      clear hS te;obtain⟨j,hj,rfl,U,hS,hk,te⟩:=hrel
      have w8:IntKind.i64.wrap ((j:Int)+1)=(j:Int)+1:=by rw[IntKind.wrap_i64];omega
      have tb3:=(hk 8 (by omega)).trans tb2
      have ta3:=(hk 11 (by omega)).trans ta
      by_cases hlt:j<n
      ·have hj0:(0:Int)≤(j:Int):=by omega
       have hj1:(j:Int)<(n:Int):=by omega
       obtain⟨b,rfl,_⟩:=(hS.lst te).slr.get hlt;have HMj:=Lib.hid (fun W=>HMu.out (A1 i1 j) W (hsA j hlt));have hk3:=fun(W:World) (U:Nat→Thing) (hS:Sep wB W U) (ta:U 11=valsT (.slice (some ⟨ba,0,none⟩) m y20) ((List.range m).map rv2))=>hS.rowat ta (vals_at h1);rw[HEQ.out] at hk3;have HKR:=Lib.hid hk3;clear hk3;obtain⟨z',hz'⟩: ∃z',z'=A1 i1 j*f:=⟨_,rfl⟩
       rw[←hz'] at HMj;have HZ:=Lib.hid hz';clear hz';obtain⟨F,hF⟩: ∃F,F=A1 i1:=⟨_,rfl⟩;have HF:=Lib.hid hF
       simp only[←hF] at te HMj HZ
       have he3:E3 wr b j (q3 (F j)):=by have h:=hS.e3 te hlt;rwa [pre_at] at h
       have HP:=Lib.hid (pre_step F f j);obtain⟨u',hu'⟩: ∃u',u'=F j:=⟨_,rfl⟩
       simp only[←hu'] at HMj HZ he3
       clear hF
       go_upto_region 17 with fail
       clear he3;replace hS:=hS.drew
       refine wp_schH (S:=fun w'=>w'.cell? ⟨gr,0,none⟩=some (.slice (some ⟨ba,0,none⟩) m y20)∧w'.cell? ⟨ba,i1,none⟩=some (.slice (some ⟨b,0,none⟩) n yq)) (hc:=by as_aux_lemma=>kernel_rfl) (.p 0 (.p 1 (.p 2 (.p 3 (.p 4 (.p 5 (.p 6 (.p 7 (.p 8 (.p 9 (.p 10 (.p 11 (.p 12 (.p 14 (.p 15 (.p 16 (.b (.c 13 (.c 17 (.c 18 (.p 19 (.c 20 .e))))) (.c 17 (.c 13 (.c 18 (.p 19 (.c 20 .e)))))))))))))))))))))) [15,17,19,2] fun zA WD hA aq=>?_
       simp only[←aq.out] at hS
       clear aq
       refine⟨⟨(hS.box tb3).at 0 rfl,HKR.out _ _ hS ta3⟩,fun hS0=>?_⟩
       repeat' first
        |((with_reducible refine isP ?_);refine tkO ?_)
        |(with_reducible refine brO ?_ ?_)
        |(
         with_reducible refine isC (i:=13) ?_
         refine ldR (i:=13) u' (by have h:=hS.e3 te hlt;rw[pre_at,←hu'] at h;exact h) ?_ (hS:=⟨(hS.box tb3).at 0 rfl,HKR.out _ _ hS ta3⟩))
        |(
         with_reducible refine isC (i:=17) ?_
         refine caO (i:=17) (HOf.out _) fun e wn hz=>?_
         obtain⟨rfl,hb⟩:=hz;replace hS:=hS.below hb;clear hb
         refine⟨_,rfl,⟨(hS.box tb3).at 0 rfl,HKR.out _ _ hS ta3⟩,?_⟩)
        |(
         with_reducible refine isC (i:=18) ?_
         refine caO (i:=18) (HMj.out _) fun e wn hz=>?_
         obtain⟨rfl,hb⟩:=hz;replace hS:=hS.below hb;clear hb
         refine⟨_,rfl,⟨(hS.box tb3).at 0 rfl,HKR.out _ _ hS ta3⟩,?_⟩)
        |(
         with_reducible refine isC (i:=20) ?_
         refine stL (i:=20) (x:=3*(4+i1)+2) z' hS te hlt fun ws hz=>?_
         replace hS:=hz;clear hz
         refine⟨⟨(hS.box (upd_o (by omega) tb3)).at 0 rfl,HKR.out _ _ hS (upd_o (by omega) ta3)⟩,?_⟩)
       all_goals(
        refine enP hA ?_
        clear hA HMj;rw[HZ.out,hu',HP.out] at hS;obtain⟨U2,hS,hk3,h3⟩:=hS.gen1;clear hu' HZ HP te
        go_wp2_with fail
        go_roundw
        case rel=>exact⟨j+1,by omega,by go_num,U2,hS,fun z hz=>(hk3 z hz).trans (hk z hz),by rw[h3,HF.out]⟩
        case measure=>simp[intOf];omega)
      ·obtain rfl:n=j:=by omega
       have hj1: ¬(n:Int)<(n:Int):=by omega
       rw[pre_all] at te
       have tB:U 2=listT (.slice (some ⟨bb,0,none⟩) m y21) (raws m B1):=(hk 2 (by omega)).trans hp2.b
       have hp3:Parts m n (upd A1 i1 (fun x=>A1 i1 x*f)) B1 C (.slice (some ⟨ba,0,none⟩) m y20) (.slice (some ⟨bb,0,none⟩) m y21) (.slice x22 n y22) rv2 (fun j=>U (3*j+2)):=⟨tB,(hk 5 (by omega)).trans hp2.c,ta3,fun i hi=>by
        by_cases e:i=i1
        ·rw[e,upd_same,HEQ.out];exact te
        ·rw[upd_ne e];exact(hk _ (by omega)).trans (hp2.r i hi)⟩
       clear te hk ta tb2 hp2 ta3;have HMj:=Lib.hid (fun W=>HMu.out (B1 i1) W hsB);obtain⟨z',hz'⟩: ∃z',z'=B1 i1*f:=⟨_,rfl⟩;rw[←hz'] at HMj;have HZ:=Lib.hid hz';clear hz';obtain⟨u',hu'⟩: ∃u',u'=B1 i1:=⟨_,rfl⟩
       simp only[←hu'] at HMj HZ
       go_upto_region 19 with fail
       replace hS:=hS.drew
       refine wp_schH (S:=fun w'=>w'.cell? ⟨gr,1,none⟩=some (.slice (some ⟨bb,0,none⟩) m y21)) (hc:=by as_aux_lemma=>kernel_rfl) (.p 0 (.p 1 (.p 2 (.p 3 (.p 4 (.p 5 (.p 6 (.p 8 (.p 9 (.p 10 (.b (.c 7 (.c 11 (.c 12 (.p 13 (.c 14 .e))))) (.c 11 (.c 7 (.c 12 (.p 13 (.c 14 .e)))))))))))))))) [15,17,2] fun zA WD hA aq=>?_
       simp only[←aq.out] at hS
       clear aq
       refine⟨(hS.box tb3).at 1 rfl,fun hS0=>?_⟩
       repeat' first
        |((with_reducible refine isP ?_);refine tkO ?_)
        |(with_reducible refine brO ?_ ?_)
        |(
         with_reducible refine isC (i:=7) ?_
         refine ldR (i:=7) u' (by have h:=hS.e3 tB h1;rw[←hu'] at h;exact h) ?_ (hS:=(hS.box tb3).at 1 rfl))
        |(
         with_reducible refine isC (i:=11) ?_
         refine caO (i:=11) (HOf.out _) fun e wn hz=>?_
         obtain⟨rfl,hb⟩:=hz;replace hS:=hS.below hb;clear hb
         refine⟨_,rfl,(hS.box tb3).at 1 rfl,?_⟩)
        |(
         with_reducible refine isC (i:=12) ?_
         refine caO (i:=12) (HMj.out _) fun e wn hz=>?_
         obtain⟨rfl,hb⟩:=hz;replace hS:=hS.below hb;clear hb
         refine⟨_,rfl,(hS.box tb3).at 1 rfl,?_⟩)
        |(
         with_reducible refine isC (i:=14) ?_
         refine stL (i:=14) (x:=2) z' hS tB h1 fun ws hz=>?_
         replace hS:=hz;clear hz
         refine⟨(hS.box (upd_o (by omega) tb3)).at 1 rfl,?_⟩)
       all_goals(
        refine enP hA ?_
        clear hA HMj;rw[HZ.out,hu'] at hS
        have h8:=upd_o (t:=listT (.slice (some ⟨bb,0,none⟩) m y21) (raws m (upd B1 i1 (B1 i1*f)))) (show 8≠2 by omega) tb3
        have hp4:=hp3.setB (by decide) (upd B1 i1 (B1 i1*f))
        clear hu' HZ
        go_wp2_with fail
        go_meet
        exact⟨_,_,_,_,hS,h8,hp4,HTF.out.1,HTF.out.2⟩)
 case rest=>
  clear hS tb2 hp2;obtain⟨T',rw_,A',B',hS,tb2,hp2,hTn,hft⟩:=hcut;have HTn:=Lib.hid hTn;have kb:=hS.box tb2;have k0:=kb.at 0 rfl;have k1:=kb.at 1 rfl;have k2:=kb.at 2 rfl;clear kb hTn;have hpr:=hp2.pr (fun i=>hS.p (3*i+2))
  go_wp2_with fail
  clear k0 k1 k2
  with_reducible refine(HLt.out A' B' hft _ _ _ _ _ _ _ hpr).mono ?_
  rintro e wX ⟨k3,ec3,az,nz,cz,v3,z3,rfl,hL3,hZ3,am⟩;clear hpr hp2 tb2 hft;obtain⟨rfl,rfl,hzz⟩:=HLU.out.turn HTn.out hL3;clear hL3;have ag:=(hS.below am).acc;clear hS am
  have hEq:=equal_any ax az nx nx cx cz z z3 wX (HXb.out _ ag) hZ3 (by omega)
  go_wp2_with fail
  with_reducible refine hEq.mono ?_
  rintro e wX ⟨hr,am⟩;clear hEq hZ3;obtain⟨r_,rfl,hr1⟩:=hr.ex;obtain rfl:r_=true:=hr1.2 ⟨rfl,hzz⟩;replace ag:=ag.tr am;clear hr hr1 hzz am
  by_cases hk:k=0
  ·have hec:ec3=0:=by rw[HLU.out.ec,hk];rfl
   subst hec;obtain⟨hnn,hlex,X,Y,hcert⟩:=HLU.out.ok hk;obtain rfl:n=nx:=hnn.symm;obtain⟨sz,sv⟩:=HSz.out _ _ _ _ _ HLU.out;obtain⟨⟨rfl,rfl,rfl⟩,X2,Y2,hc2⟩:=HU.out.ok hk;obtain rfl:=hcert.unique hc2;have HV:=Lib.hid hlex.val;have HFe:=Lib.hid hlex.feas;clear hlex hcert hc2 hk
   have hdc:=fun W hb=>HDo.out a2 ax n n c2 cx C z W (HPb.out W hb).parts.2.2 (HXb.out W hb).o (Nat.le_refl _) (by omega) (by omega) (fun j hj=>sC j hj) (fun j hj=>sz j hj)
   rw[HV.out] at hdc;have HDC:=Lib.hid hdc;have hr0:=Below.refl wB.heap.size wB;obtain⟨hMA,hMB,_⟩:=(HPb.out wB hr0).parts;have HMA:=Lib.hid (fun i (hi:i<m)=>hMA.row hi);have HMB:=Lib.hid (fun i (hi:i<m)=>hMB.get hi);have HXG:=Lib.hid (fun i (hi:i<n)=>(HXb.out wB hr0).get hi);clear hdc hMA hMB hr0
   go_upto_region 25 with fail
   replace ag:=ag.drew
   refine wp_schH (S:=(fun w'=>w'.cell? ⟨gp,2,none⟩=some (.slice a2 n c2)∧w'.cell? ⟨gs,2,none⟩=some (.bool (decide (v'.num<0)))∧w'.cell? ⟨gs,3,none⟩=some (.string (nb v'.num.natAbs))∧w'.cell? ⟨gs,4,none⟩=some (.string (nb v'.den)))) (ps 0 3 (ps 4 2 (.c 3 (.p 6 .e)))) [8,9,13] fun zA WD hA aq=>?_
   simp only[←aq.out] at ag
   clear aq
   refine⟨?_,fun ap=>?_⟩
   ·try dsimp only
    with_reducible exact⟨(Hbp.out _ ag).at 2 rfl,(Hbs.out _ ag).at 2 rfl,(Hbs.out _ ag).at 3 rfl,(Hbs.out _ ag).at 4 rfl⟩
   repeat(refine isP ?_;refine tkO ?_)
   refine caO (HDC.out _ ag) fun e wX hz=>?_
   obtain⟨rfl,am⟩:=hz;replace ag:=ag.tr am;clear am
   refine⟨_,rfl,?_,?_⟩
   ·try dsimp only
    with_reducible exact⟨(Hbp.out _ ag).at 2 rfl,(Hbs.out _ ag).at 2 rfl,(Hbs.out _ ag).at 3 rfl,(Hbs.out _ ag).at 4 rfl⟩
   repeat(refine isP ?_;refine tkO ?_)
   refine enO hA ?_
   clear hA;clear HDC;have cb:=(Hbp.out _ ag).at 0 rfl
   go_wp2_with fail
   clear cb
   go_loopw [186] (fun s186 wr=> ∃i:Nat,i≤m∧s186= .int .i64 (i:Int)∧Below wB.heap.size wB wr) (fun s186 _=>m-(intOf s186).toNat)
   case atStart=>exact⟨0,by omega,rfl,ag⟩
   case round=>
    clear ag;obtain⟨i,hi,rfl,ag⟩:=hrel
    have w8:IntKind.i64.wrap ((i:Int)+1)=(i:Int)+1:=by rw[IntKind.wrap_i64];omega
    by_cases hlt:i<m
    ·have hi0:(0:Int)≤(i:Int):=by omega
     have hi1:(i:Int)<(m:Int):=by omega
     obtain⟨b,a3,c3,rfl,hr3⟩:=HMA.out i hlt;obtain⟨b1,rfl,hg⟩:=HMB.out i hlt;have HR3:=Lib.hid hr3;have HG:=Lib.hid hg
     have HD:=Lib.hid (fun W hb=>HDo.out a3 ax n n c3 cx (A i) z W (hr3 W hb).2 (HXb.out W hb).o (Nat.le_refl _) (by omega) (by omega) (fun j hj=>sA i j hlt hj) (fun j hj=>sz j hj))
     have HCq:=Lib.hid (fun W=>HCm.out (S n (fun j=>A i j*z j)) (B i) W (S_sz' (by omega) (fun j hj=>sA i j hlt hj) (fun j hj=>sz j hj)) ((sB i hlt).mono (by decide)))
     have hng: ¬(0:Int)<Rq.sgn (S n (fun j=>A i j*z j)-B i):=sgn_no (HFe.out.2 i hlt);clear hr3 hg;generalize Rq.sgn (S n (fun j=>A i j*z j)-B i)=sg at*;generalize S n (fun j=>A i j*z j)=sd at*;generalize hu:B i=u at*;clear hu
     go_upto_region 30 with fail
     replace ag:=ag.drew
     refine wp_schH (S:=(fun w'=>w'.cell? ⟨gp,0,none⟩=some (.slice (some ⟨b,0,none⟩) m c0)∧w'.cell? ⟨gp,1,none⟩=some (.slice (some ⟨b1,0,none⟩) m c1)∧w'.cell? ⟨b,i,none⟩=some (.slice a3 n c3)∧w'.cell? ⟨b1,i*3,none⟩=some (.bool (decide (u.num<0)))∧w'.cell? ⟨b1,i*3+1,none⟩=some (.string (nb u.num.natAbs))∧w'.cell? ⟨b1,i*3+1+1,none⟩=some (.string (nb u.den)))) (ps 0 6 (ps 7 5 (.c 6 (.c 12 (.p 13 .e))))) [8,22,9] fun zA WD hA aq=>?_
     simp only[←aq.out] at ag
     clear aq
     refine⟨?_,fun ap=>?_⟩
     ·try dsimp only
      with_reducible exact⟨(Hbp.out _ ag).at 0 rfl,(Hbp.out _ ag).at 1 rfl,(HR3.out _ ag).1,(HG.out _ ag).1,(HG.out _ ag).2.1,(HG.out _ ag).2.2⟩
     repeat(refine isP ?_;refine tkO ?_)
     refine caO (HD.out _ ag) fun e wX hz=>?_
     obtain⟨rfl,am⟩:=hz;replace ag:=ag.tr am;clear am
     refine⟨_,rfl,?_,?_⟩
     ·try dsimp only
      with_reducible exact⟨(Hbp.out _ ag).at 0 rfl,(Hbp.out _ ag).at 1 rfl,(HR3.out _ ag).1,(HG.out _ ag).1,(HG.out _ ag).2.1,(HG.out _ ag).2.2⟩
     refine caO (HCq.out _) fun e wX hz=>?_
     obtain⟨rfl,am⟩:=hz;replace ag:=ag.tr am;clear am
     refine⟨_,rfl,?_,?_⟩
     ·try dsimp only
      with_reducible exact⟨(Hbp.out _ ag).at 0 rfl,(Hbp.out _ ag).at 1 rfl,(HR3.out _ ag).1,(HG.out _ ag).1,(HG.out _ ag).2.1,(HG.out _ ag).2.2⟩
     repeat(refine isP ?_;refine tkO ?_)
     refine enO hA ?_
     clear hA;clear HD HCq HR3 HG
     go_wp2_with fail
     go_roundw
     case rel=>exact⟨i+1,by omega,by go_num,ag⟩
     case measure=>simp[intOf];omega
    ·obtain rfl:m=i:=by omega
     have hi1: ¬(m:Int)<(m:Int):=by omega
     go_wp2_with fail
     go_loopw [206] (fun s206 wr=> ∃i:Nat,i≤n∧s206= .int .i64 (i:Int)∧Below wB.heap.size wB wr) (fun s206 _=>n-(intOf s206).toNat)
     case atStart=>exact⟨0,by omega,rfl,ag⟩
     case round=>
      clear ag;obtain⟨i,hi,rfl,ag⟩:=hrel
      have w8:IntKind.i64.wrap ((i:Int)+1)=(i:Int)+1:=by rw[IntKind.wrap_i64];omega
      by_cases hlt:i<n
      ·have hi0:(0:Int)≤(i:Int):=by omega
       have hi1:(i:Int)<(n:Int):=by omega
       obtain⟨b,rfl,hg⟩:=HXG.out i hlt
       have HSi:=Lib.hid (fun W=>HSg.out (z i) W ((sz i hlt).mono (by decide)))
       have hng: ¬Rq.sgn (z i)<(0:Int):=sgn_nn (HFe.out.1 i hlt);obtain⟨q0,q1,q2⟩:=hg _ ag;clear hg;generalize Rq.sgn (z i)=sg at*;generalize hu:z i=u at*;clear hu;have kgv:=ag.size;replace ag:=ag.alloc ag.size (.cells #[.bool (decide (u.num<0)),.string (nb u.num.natAbs),.string (nb u.den)] 33);have bv:Rx (wr.alloc (.cells #[.bool (decide (u.num<0)),.string (nb u.num.natAbs),.string (nb u.den)] 33)) wr.heap.size [.bool (decide (u.num<0)),.string (nb u.num.natAbs),.string (nb u.den)]:=Rx.new wr _ rfl [.bool (decide (u.num<0)),.string (nb u.num.natAbs),.string (nb u.den)] 33
       go_upto_region 36 with fail
       clear q0 q1 q2;generalize wr.heap.size=gv at*;generalize wr.alloc (.cells #[.bool (decide (u.num<0)),.string (nb u.num.natAbs),.string (nb u.den)] 33)=Wgv at*;have⟨cv0,fv0,cv1,fv1,cv2,fv2⟩:=bv.all3
       go_wp2_with fail
       clear cv0 fv0 cv1 fv1 cv2 fv2
       with_reducible refine(HSi.out _).mono ?_
       rintro e wX ⟨rfl,am⟩;replace ag:=ag.tr am;replace bv:=bv.below am;clear am;clear bv
       go_wp2_with fail
       go_roundw
       case rel=>exact⟨i+1,by omega,by go_num,ag⟩
       case measure=>simp[intOf];omega
      ·obtain rfl:n=i:=by omega
       have hi1: ¬(n:Int)<(n:Int):=by omega
       go_wp2_with fail
       go_ret
       exact⟨rfl,HB0.out _ ag⟩
  ·have hec: ¬ec3=0:=by
    rw[HLU.out.ec];unfold ecOf;rw[if_neg hk]
    split<;>decide
   obtain rfl:=HLU.out.no hk;clear hk
   go_wp2_with fail
   go_ret
   exact⟨rfl,HB0.out _ ag⟩
end Go.Proofs.YtinmmkcjjlconaaGreat
namespace Go.Proofs.YtinmmkcjjlconaaGreat
open Go.ChangeShapes Go.WideShapes Go.ChangeAt Go.RowKit Go.Joins
theorem linearLexicographic_lifted (os:Os) (started:os.Started) (H:Type) (enc:TypeId×Value→H):
    ReturnsInHanded {} Tryz.checked os 11 .any (Rows.linearLexicographicSpec.pre6 enc Tryz.prog Tryz.f11 Rows.linearLexicographicRow.domain false) (Rows.linearLexicographicSpec.post enc Tryz.prog Tryz.f11 false true false false):=by
  refine returnsInHanded_of_change_sized (C:=Tryz.checked) own started (by kernel_rfl) Tryz.func11
    (ChangeSpec.witness6 (enc:=enc) (C:=Tryz.checked) false ⟨#[], #[.agg #[.int .u8 0,.int .u8 0,.slice none 0 0],.agg #[.int .u8 0,.int .u8 0],.int .u8 0], []⟩ 8 (by kernel_rfl) (by kernel_rfl) (by kernel_rfl) (by kernel_rfl)) ?_
  intro W base args ds gs before hval0 hW _ _ _
  have hval: ∀(j:Nat) t v,Tryz.f11.params[j]? =some t→args[j]? =some v→Value.okWide Tryz.prog W .any base t v:=hval0;have hW':=hW;obtain⟨p,q,hA0,hV,rfl,hfz,hnd⟩:=hW;have hA:DataW.TrodAll enc Tryz.prog W 0 (fun _=>true) true Tryz.f11.params.toList args.toList ds p:=hA0;rw[Tryz.params11] at hA hval;obtain⟨v0,v1,v2,d0,d1,d2,p0,p1,p2,rfl,rfl,rfl,h0,h1,h2⟩:=trodAll_three hA
  obtain⟨r0,c0,vL0,l0,e0,br0,bc0,k0⟩:=open_plan (hval 0 24 v0 rfl rfl) h0;subst e0;obtain⟨x1,y1,e1,bx1,by1⟩:=open_a2 (hval 1 59 v1 rfl rfl) h1;subst e1;obtain⟨a2,e2,_,_,w2⟩:=open_int Tryz.underlying5 (hval 2 5 v2 rfl rfl) h2;subst e2
  refine(lexi_walk r0 c0 br0 bc0 vL0 l0 x1 y1 a2 W k0 bx1 by1 (bounds_u8 w2).1 (bounds_u8 w2).2).mono fun e W' ⟨he,hb⟩=>?_
  subst he
  exact⟨_,rfl,law_post rfl hW' rfl rfl (by kernel_rfl) hb⟩
theorem linearLexicographic_holds:Rows.LinearLexicographicSaid:=
  OpenClaim.holds_of_wide 11 Tryz.f11 rfl rfl rfl rfl rfl rfl rfl ⟨rfl,rfl,rfl,rfl,rfl⟩ rfl rfl rfl rfl rfl (by kernel_rfl) Tryz.func11 (by kernel_rfl)
    (of_decide_eq_true (by kernel_rfl)) (by unfold Func.isWrapper;first|(rw[if_pos (by decide+kernel)];kernel_rfl)|(rw[if_neg (by decide+kernel)];exact⟨rfl,rfl⟩))
    (fun os started H enc _=>linearLexicographic_lifted os started H enc)
end Go.Proofs.YtinmmkcjjlconaaGreat
