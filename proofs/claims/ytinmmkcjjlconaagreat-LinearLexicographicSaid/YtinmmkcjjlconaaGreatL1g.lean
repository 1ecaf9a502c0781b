/- Parts of the proofs about this seat's statements. -/
import Derived.Test.YtinmmkcjjlconaaGreatL1f
import Derived.Laws.OwnMore
set_option maxRecDepth 100000
set_option maxHeartbeats 16000000
namespace Go.Proofs.YtinmmkcjjlconaaGreat
open Go.RowKit W
open Pl (bval enc bv nb bv_nb nb_size_le nb_size_zero nb_size_mono nb_bv_size bv_lt cmpN nb_inj)
open Rq
theorem nb_is_one (x:Nat):((nb x).toList== [1])=decide (x=1):=by
 by_cases h:x=1
 ·subst h;rw[nb_1];decide+kernel
 ·rw[decide_eq_false h,beq_eq_false_iff_ne]
  intro e
  refine h ?_
  rw[Go.ByteArray.toList_eq] at e
  have e2:bv (nb x)=bval [1]:=by unfold bv;rw[e]
  rw[bv_nb] at e2;rw[e2];rfl
theorem nright_raw (neg:Bool) (s t:ByteArray) (w:World) (hs:s.size≤134217728) (ht:t.size≤134217728):
  Calls Tryz.prog 87 #[.agg #[.bool neg,.string s,.string t]] w fun e w'=>e= .returned (.bool (rawB neg s t))∧Below w.heap.size w w':=by
 by_cases h1:rightB s=true
 ·by_cases h2:rightB t=true
  ·by_cases h3:t.size=0
   ·have HB:=Lib.hid (rawB_den (neg:=neg) (s:=s) h3)
    have he:t.toList= []:=toList_nil.2 h3;clear h3
    go_enter Tryz.func87,Tryz.ntmps87
    have⟨bA,ag⟩:=opn1 w [.bool neg,.string s,.string t] 109
    go_upto_region 1 with fail
    generalize w.alloc (.cells #[.bool neg,.string s,.string t] 109)=W0 at*;obtain⟨gA,hgA⟩: ∃g,g=w.heap.size:=⟨_,rfl⟩;rw[←hgA] at bA
    simp only[←hgA]
    have kgA:w.heap.size≤gA:=by omega
    clear hgA;have⟨cgA0,fA0,cA1,fA1,cgA2,fA2⟩:=bA.all3
    go_wp2_with fail
    clear cgA0 fA0 cA1 fA1 cgA2 fA2
    with_reducible refine(nright_any s _ (by omega)).mono ?_
    rintro e w' ⟨rfl,rfl⟩;have⟨cgA0,fA0,cA1,fA1,cgA2,fA2⟩:=bA.all3
    go_wp2_with fail
    clear cgA0 fA0 cA1 fA1 cgA2 fA2
    with_reducible refine(nright_any t _ (by omega)).mono ?_
    rintro e w' ⟨rfl,rfl⟩;have⟨cgA0,fA0,cA1,fA1,cgA2,fA2⟩:=bA.all3
    go_wp2_with fail
    go_ret
    exact⟨ret_bool (by rw[HB.out]),ag⟩
   ·have hne: ¬t.toList= []:=fun e=>h3 (toList_nil.1 e)
    have hie:t.toList.isEmpty=false:=by simpa using hne
    by_cases h4:s.size=0
    ·have hse:s.toList= []:=toList_nil.2 h4
     cases neg
     ·have HB:=Lib.hid (rawB_zero (t:=t) h4 h2 h3)
      have hg:=Lib.hid (show Nat.gcd (bv s) (bv t)=bv t by rw[bv_size0 h4,Nat.gcd_zero_left])
      go_enter Tryz.func87,Tryz.ntmps87
      have⟨bA,ag⟩:=opn1 w [.bool false,.string s,.string t] 109
      go_upto_region 1 with fail
      generalize w.alloc (.cells #[.bool false,.string s,.string t] 109)=W0 at*;obtain⟨gA,hgA⟩: ∃g,g=w.heap.size:=⟨_,rfl⟩;rw[←hgA] at bA
      simp only[←hgA]
      have kgA:w.heap.size≤gA:=by omega
      clear hgA;have⟨cgA0,fA0,cA1,fA1,cgA2,fA2⟩:=bA.all3
      go_wp2_with fail
      clear cgA0 fA0 cA1 fA1 cgA2 fA2
      with_reducible refine(nright_any s _ (by omega)).mono ?_
      rintro e w' ⟨rfl,rfl⟩;have⟨cgA0,fA0,cA1,fA1,cgA2,fA2⟩:=bA.all3
      go_wp2_with fail
      clear cgA0 fA0 cA1 fA1 cgA2 fA2
      with_reducible refine(nright_any t _ (by omega)).mono ?_
      rintro e w' ⟨rfl,rfl⟩;have⟨cgA0,fA0,cA1,fA1,cgA2,fA2⟩:=bA.all3
      go_wp2_with fail
      clear cgA0 fA0 cA1 fA1 cgA2 fA2
      with_reducible refine(ngcd_any s t _ (by omega) (by omega)).mono ?_
      rw[hg.out];rintro e wZ ⟨rfl,am⟩;have ag:=ag.tr am;have bA:=bA.below am;clear am
      go_wp2_with fail
      go_ret
      exact⟨ret_bool (by rw[HB.out];exact nb_is_one _),ag⟩
     ·have HB:=Lib.hid (rawB_neg (t:=t) h4)
      go_enter Tryz.func87,Tryz.ntmps87
      have⟨bA,ag⟩:=opn1 w [.bool true,.string s,.string t] 109
      go_upto_region 1 with fail
      generalize w.alloc (.cells #[.bool true,.string s,.string t] 109)=W0 at*;obtain⟨gA,hgA⟩: ∃g,g=w.heap.size:=⟨_,rfl⟩;rw[←hgA] at bA
      simp only[←hgA]
      have kgA:w.heap.size≤gA:=by omega
      clear hgA;have⟨cgA0,fA0,cA1,fA1,cgA2,fA2⟩:=bA.all3
      go_wp2_with fail
      clear cgA0 fA0 cA1 fA1 cgA2 fA2
      with_reducible refine(nright_any s _ (by omega)).mono ?_
      rintro e w' ⟨rfl,rfl⟩;have⟨cgA0,fA0,cA1,fA1,cgA2,fA2⟩:=bA.all3
      go_wp2_with fail
      clear cgA0 fA0 cA1 fA1 cgA2 fA2
      with_reducible refine(nright_any t _ (by omega)).mono ?_
      rintro e w' ⟨rfl,rfl⟩;have⟨cgA0,fA0,cA1,fA1,cgA2,fA2⟩:=bA.all3
      go_wp2_with fail
      go_ret
      exact⟨ret_bool (by rw[HB.out]),ag⟩
    ·have hne2: ¬s.toList= []:=fun e=>h4 (toList_nil.1 e)
     have hie2:s.toList.isEmpty=false:=by simpa using hne2
     have HB:=Lib.hid (rawB_gcd (neg:=neg) h1 h2 h3 h4)
     go_enter Tryz.func87,Tryz.ntmps87
     have⟨bA,ag⟩:=opn1 w [.bool neg,.string s,.string t] 109
     go_upto_region 1 with fail
     generalize w.alloc (.cells #[.bool neg,.string s,.string t] 109)=W0 at*;obtain⟨gA,hgA⟩: ∃g,g=w.heap.size:=⟨_,rfl⟩;rw[←hgA] at bA
     simp only[←hgA]
     have kgA:w.heap.size≤gA:=by omega
     clear hgA;have⟨cgA0,fA0,cA1,fA1,cgA2,fA2⟩:=bA.all3
     go_wp2_with fail
     clear cgA0 fA0 cA1 fA1 cgA2 fA2
     with_reducible refine(nright_any s _ (by omega)).mono ?_
     rintro e w' ⟨rfl,rfl⟩;have⟨cgA0,fA0,cA1,fA1,cgA2,fA2⟩:=bA.all3
     go_wp2_with fail
     clear cgA0 fA0 cA1 fA1 cgA2 fA2
     with_reducible refine(nright_any t _ (by omega)).mono ?_
     rintro e w' ⟨rfl,rfl⟩;have⟨cgA0,fA0,cA1,fA1,cgA2,fA2⟩:=bA.all3
     go_wp2_with fail
     clear cgA0 fA0 cA1 fA1 cgA2 fA2
     with_reducible refine(ngcd_any s t _ (by omega) (by omega)).mono ?_
     rintro e wZ ⟨rfl,am⟩;have ag:=ag.tr am;have bA:=bA.below am;clear am
     go_wp2_with fail
     go_ret
     exact⟨ret_bool (by rw[HB.out];exact nb_is_one _),ag⟩
  ·have h2':rightB t=false:=by simpa using h2
   have HB:=Lib.hid (rawB_t (neg:=neg) (s:=s) h2')
   go_enter Tryz.func87,Tryz.ntmps87
   have⟨bA,ag⟩:=opn1 w [.bool neg,.string s,.string t] 109
   go_upto_region 1 with fail
   generalize w.alloc (.cells #[.bool neg,.string s,.string t] 109)=W0 at*;obtain⟨gA,hgA⟩: ∃g,g=w.heap.size:=⟨_,rfl⟩;rw[←hgA] at bA
   simp only[←hgA]
   have kgA:w.heap.size≤gA:=by omega
   clear hgA;have⟨cgA0,fA0,cA1,fA1,cgA2,fA2⟩:=bA.all3
   go_wp2_with fail
   clear cgA0 fA0 cA1 fA1 cgA2 fA2
   with_reducible refine(nright_any s _ (by omega)).mono ?_
   rintro e w' ⟨rfl,rfl⟩;have⟨cgA0,fA0,cA1,fA1,cgA2,fA2⟩:=bA.all3
   go_wp2_with fail
   clear cgA0 fA0 cA1 fA1 cgA2 fA2
   with_reducible refine(nright_any t _ (by omega)).mono ?_
   rintro e w' ⟨rfl,rfl⟩;have⟨cgA0,fA0,cA1,fA1,cgA2,fA2⟩:=bA.all3
   go_wp2_with fail
   go_ret
   exact⟨ret_bool (by rw[HB.out]),ag⟩
 ·have h1':rightB s=false:=by simpa using h1
  have HB:=Lib.hid (rawB_s (neg:=neg) (t:=t) h1')
  go_enter Tryz.func87,Tryz.ntmps87
  have⟨bA,ag⟩:=opn1 w [.bool neg,.string s,.string t] 109
  go_upto_region 1 with fail
  generalize w.alloc (.cells #[.bool neg,.string s,.string t] 109)=W0 at*;obtain⟨gA,hgA⟩: ∃g,g=w.heap.size:=⟨_,rfl⟩;rw[←hgA] at bA
  simp only[←hgA]
  have kgA:w.heap.size≤gA:=by omega
  clear hgA;have⟨cgA0,fA0,cA1,fA1,cgA2,fA2⟩:=bA.all3
  go_wp2_with fail
  clear cgA0 fA0 cA1 fA1 cgA2 fA2
  with_reducible refine(nright_any s _ (by omega)).mono ?_
  rintro e w' ⟨rfl,rfl⟩;have⟨cgA0,fA0,cA1,fA1,cgA2,fA2⟩:=bA.all3
  go_wp2_with fail
  go_ret
  exact⟨ret_bool (by rw[HB.out]),ag⟩
theorem aright_any (neg:Bool) (s t:ByteArray) (w:World) (hs:s.size≤134217728) (ht:t.size≤134217728):
  Calls Tryz.prog 55 #[.agg #[.bool neg,.string s,.string t]] w fun e w'=>e= .returned (.bool (rawB neg s t))∧Below w.heap.size w w':=by
 go_enter Tryz.func55,Tryz.ntmps55
 have⟨bA,ag⟩:=opn1 w [.bool neg,.string s,.string t] 33
 go_upto_region 1 with fail
 generalize w.alloc (.cells #[.bool neg,.string s,.string t] 33)=W0 at*;obtain⟨gA,hgA⟩: ∃g,g=w.heap.size:=⟨_,rfl⟩;rw[←hgA] at bA
 simp only[←hgA]
 have kgA:w.heap.size≤gA:=by omega
 clear hgA;have⟨cgA0,fA0,cA1,fA1,cgA2,fA2⟩:=bA.all3
 go_wp2_with fail
 clear cgA0 fA0 cA1 fA1 cgA2 fA2
 with_reducible refine(nright_raw neg s t _ hs ht).mono ?_
 rintro e wZ ⟨rfl,am⟩;have ag:=ag.tr am;have bA:=bA.below am;clear am
 go_wp2_with fail
 go_ret
 exact⟨rfl,ag⟩
theorem avalue_any (q:Rat) (w:World) (hq:Sz q 134217728):
  Calls Tryz.prog 89 #[rv q] w fun e w'=>e= .returned (rv q)∧Below w.heap.size w w':=by
 have hr:=Lib.hid (rawB_rat q);unfold rv
 go_enter Tryz.func89,Tryz.ntmps89
 have⟨bA,bR,ag⟩:=opn2 w [.bool (decide (q.num<0)),.string (nb q.num.natAbs),.string (nb q.den)] [.bool false,.string ⟨#[]⟩,.string ⟨#[]⟩] 33 33
 go_upto_region 1 with fail
 generalize (w.alloc (.cells #[.bool (decide (q.num<0)),.string (nb q.num.natAbs),.string (nb q.den)] 33)).alloc (.cells #[.bool false,.string ⟨#[]⟩,.string ⟨#[]⟩] 33)=W0 at*;generalize hgR:w.heap.size+1=gR at*;obtain⟨gA,hgA⟩: ∃g,g=w.heap.size:=⟨_,rfl⟩;rw[←hgA] at bA
 simp only[←hgA]
 have ngAgR:gA≠gR:=by omega
 have kgA:w.heap.size≤gA:=by omega
 have kgR:w.heap.size≤gR:=by omega
 clear hgA hgR;have⟨cgA0,fA0,cA1,fA1,cgA2,fA2⟩:=bA.all3
 go_wp2_with fail
 clear cgA0 fA0 cA1 fA1 cgA2 fA2
 with_reducible refine(nright_raw (decide (q.num<0)) (nb q.num.natAbs) (nb q.den) _ hq.1 hq.2).mono ?_
 rw[hr.out];rintro e wZ ⟨rfl,am⟩;have ag:=ag.tr am;have bA:=bA.below am;have bR:=bR.below am;clear am;have⟨cgA0,fA0,cA1,fA1,cgA2,fA2⟩:=bA.all3;have⟨cgR0,fgR0,cgR1,fgR1,cgR2,fgR2⟩:=bR.all3
 go_wp2_with fail
 refine bodyPost_ret (v:=.agg #[.bool (decide (q.num<0)),.string (nb q.num.natAbs),.string (nb q.den)]) (by simp[results,Tryz.results89,go_sem,cgR0,cgR1,cgR2]) rfl ⟨rfl,(((ag.setCell kgR _).setCell kgR _).setCell kgR _)⟩
theorem areduced_any (neg:Bool) (n d:Nat) (w:World) (hd:0<d) (sn:(nb n).size≤134217728) (sd:(nb d).size≤134217728):
  Calls Tryz.prog 109 #[.bool neg,.string (nb n),.string (nb d)] w fun e w'=>e= .returned (rv (mk neg n d))∧Below w.heap.size w w':=by
 have sg:=Nat.le_trans (nb_size_mono (Nat.le_of_dvd hd (Nat.gcd_dvd_right n d))) sd;have hg:0<Nat.gcd n d:=Nat.gcd_pos_of_pos_right n hd;have L1:=Lib.hid (mk_abs (neg:=neg) (n:=n) hd);have L2:=Lib.hid (mk_den (neg:=neg) (n:=n) hd);have L3:=Lib.hid (mk_neg (neg:=neg) (n:=n) hd)
 by_cases h0:n/Nat.gcd n d=0
 ·have he:(nb (n/Nat.gcd n d)).toList= []:=by rw[h0];exact nb0_nil
  have L4:=Lib.hid (show false=decide ((mk neg n d).num<0) by rw[L3.out,h0];cases neg<;>rfl)
  clear h0
  cases neg
  ·go_enter Tryz.func109,Tryz.ntmps109
   have⟨bR,ag⟩:=opn1 w [.bool false,.string ⟨#[]⟩,.string ⟨#[]⟩] 33
   go_upto_region 1 with fail
   generalize w.alloc (.cells #[.bool false,.string ⟨#[]⟩,.string ⟨#[]⟩] 33)=W0 at*;obtain⟨gR,hgR⟩: ∃g,g=w.heap.size:=⟨_,rfl⟩;rw[←hgR] at bR
   simp only[←hgR]
   have kgR:w.heap.size≤gR:=by omega
   clear hgR
   go_wp2_with fail
   with_reducible refine(ngcd_any (nb n) (nb d) _ (by omega) (by omega)).mono ?_
   rw[bv_nb,bv_nb];rintro e wZ ⟨rfl,am⟩;have ag:=ag.tr am;have bR:=bR.below am;clear am
   go_wp2_with fail
   with_reducible refine(nquo_any (nb n) (nb (Nat.gcd n d)) _ (by omega) (by omega) (by rw[bv_nb];exact hg)).mono ?_
   rw[bv_nb,bv_nb];rintro e wZ ⟨rfl,am⟩;have ag:=ag.tr am;have bR:=bR.below am;clear am
   go_wp2_with fail
   with_reducible refine(nquo_any (nb d) (nb (Nat.gcd n d)) _ (by omega) (by omega) (by rw[bv_nb];exact hg)).mono ?_
   rw[bv_nb,bv_nb];rintro e wZ ⟨rfl,am⟩;have ag:=ag.tr am;have bR:=bR.below am;clear am;have⟨cgR0,fgR0,cgR1,fgR1,cgR2,fgR2⟩:=bR.all3
   go_wp2_with fail
   refine bodyPost_ret (v:=.agg #[.bool false,.string (nb (n/Nat.gcd n d)),.string (nb (d/Nat.gcd n d))]) (by simp[results,Tryz.results109,go_sem,cgR0,cgR1,cgR2]) rfl ⟨congrArg Ending.returned (ret_rv L4.out L1.out.symm L2.out.symm),(((ag.setCell kgR _).setCell kgR _).setCell kgR _)⟩
  ·go_enter Tryz.func109,Tryz.ntmps109
   have⟨bR,ag⟩:=opn1 w [.bool false,.string ⟨#[]⟩,.string ⟨#[]⟩] 33
   go_upto_region 1 with fail
   generalize w.alloc (.cells #[.bool false,.string ⟨#[]⟩,.string ⟨#[]⟩] 33)=W0 at*;obtain⟨gR,hgR⟩: ∃g,g=w.heap.size:=⟨_,rfl⟩;rw[←hgR] at bR
   simp only[←hgR]
   have kgR:w.heap.size≤gR:=by omega
   clear hgR
   go_wp2_with fail
   with_reducible refine(ngcd_any (nb n) (nb d) _ (by omega) (by omega)).mono ?_
   rw[bv_nb,bv_nb];rintro e wZ ⟨rfl,am⟩;have ag:=ag.tr am;have bR:=bR.below am;clear am
   go_wp2_with fail
   with_reducible refine(nquo_any (nb n) (nb (Nat.gcd n d)) _ (by omega) (by omega) (by rw[bv_nb];exact hg)).mono ?_
   rw[bv_nb,bv_nb];rintro e wZ ⟨rfl,am⟩;have ag:=ag.tr am;have bR:=bR.below am;clear am
   go_wp2_with fail
   with_reducible refine(nquo_any (nb d) (nb (Nat.gcd n d)) _ (by omega) (by omega) (by rw[bv_nb];exact hg)).mono ?_
   rw[bv_nb,bv_nb];rintro e wZ ⟨rfl,am⟩;have ag:=ag.tr am;have bR:=bR.below am;clear am;have⟨cgR0,fgR0,cgR1,fgR1,cgR2,fgR2⟩:=bR.all3
   go_wp2_with fail
   refine bodyPost_ret (v:=.agg #[.bool false,.string (nb (n/Nat.gcd n d)),.string (nb (d/Nat.gcd n d))]) (by simp[results,Tryz.results109,go_sem,cgR0,cgR1,cgR2]) rfl ⟨congrArg Ending.returned (ret_rv L4.out L1.out.symm L2.out.symm),(((ag.setCell kgR _).setCell kgR _).setCell kgR _)⟩
 ·have hne:=nb_ne h0
  have hie:=nb_isE h0
  have L4:=Lib.hid (show neg=decide ((mk neg n d).num<0) by rw[L3.out,decide_eq_true h0,Bool.and_true])
  clear h0
  cases neg
  ·go_enter Tryz.func109,Tryz.ntmps109
   have⟨bR,ag⟩:=opn1 w [.bool false,.string ⟨#[]⟩,.string ⟨#[]⟩] 33
   go_upto_region 1 with fail
   generalize w.alloc (.cells #[.bool false,.string ⟨#[]⟩,.string ⟨#[]⟩] 33)=W0 at*;obtain⟨gR,hgR⟩: ∃g,g=w.heap.size:=⟨_,rfl⟩;rw[←hgR] at bR
   simp only[←hgR]
   have kgR:w.heap.size≤gR:=by omega
   clear hgR
   go_wp2_with fail
   with_reducible refine(ngcd_any (nb n) (nb d) _ (by omega) (by omega)).mono ?_
   rw[bv_nb,bv_nb];rintro e wZ ⟨rfl,am⟩;have ag:=ag.tr am;have bR:=bR.below am;clear am
   go_wp2_with fail
   with_reducible refine(nquo_any (nb n) (nb (Nat.gcd n d)) _ (by omega) (by omega) (by rw[bv_nb];exact hg)).mono ?_
   rw[bv_nb,bv_nb];rintro e wZ ⟨rfl,am⟩;have ag:=ag.tr am;have bR:=bR.below am;clear am
   go_wp2_with fail
   with_reducible refine(nquo_any (nb d) (nb (Nat.gcd n d)) _ (by omega) (by omega) (by rw[bv_nb];exact hg)).mono ?_
   rw[bv_nb,bv_nb];rintro e wZ ⟨rfl,am⟩;have ag:=ag.tr am;have bR:=bR.below am;clear am;have⟨cgR0,fgR0,cgR1,fgR1,cgR2,fgR2⟩:=bR.all3
   go_wp2_with fail
   refine bodyPost_ret (v:=.agg #[.bool false,.string (nb (n/Nat.gcd n d)),.string (nb (d/Nat.gcd n d))]) (by simp[results,Tryz.results109,go_sem,cgR0,cgR1,cgR2]) rfl ⟨congrArg Ending.returned (ret_rv L4.out L1.out.symm L2.out.symm),(((ag.setCell kgR _).setCell kgR _).setCell kgR _)⟩
  ·go_enter Tryz.func109,Tryz.ntmps109
   have⟨bR,ag⟩:=opn1 w [.bool false,.string ⟨#[]⟩,.string ⟨#[]⟩] 33
   go_upto_region 1 with fail
   generalize w.alloc (.cells #[.bool false,.string ⟨#[]⟩,.string ⟨#[]⟩] 33)=W0 at*;obtain⟨gR,hgR⟩: ∃g,g=w.heap.size:=⟨_,rfl⟩;rw[←hgR] at bR
   simp only[←hgR]
   have kgR:w.heap.size≤gR:=by omega
   clear hgR
   go_wp2_with fail
   with_reducible refine(ngcd_any (nb n) (nb d) _ (by omega) (by omega)).mono ?_
   rw[bv_nb,bv_nb];rintro e wZ ⟨rfl,am⟩;have ag:=ag.tr am;have bR:=bR.below am;clear am
   go_wp2_with fail
   with_reducible refine(nquo_any (nb n) (nb (Nat.gcd n d)) _ (by omega) (by omega) (by rw[bv_nb];exact hg)).mono ?_
   rw[bv_nb,bv_nb];rintro e wZ ⟨rfl,am⟩;have ag:=ag.tr am;have bR:=bR.below am;clear am
   go_wp2_with fail
   with_reducible refine(nquo_any (nb d) (nb (Nat.gcd n d)) _ (by omega) (by omega) (by rw[bv_nb];exact hg)).mono ?_
   rw[bv_nb,bv_nb];rintro e wZ ⟨rfl,am⟩;have ag:=ag.tr am;have bR:=bR.below am;clear am;have⟨cgR0,fgR0,cgR1,fgR1,cgR2,fgR2⟩:=bR.all3
   go_wp2_with fail
   refine bodyPost_ret (v:=.agg #[.bool true,.string (nb (n/Nat.gcd n d)),.string (nb (d/Nat.gcd n d))]) (by simp[results,Tryz.results109,go_sem,cgR0,cgR1,cgR2]) rfl ⟨congrArg Ending.returned (ret_rv L4.out L1.out.symm L2.out.symm),(((ag.setCell kgR _).setCell kgR _).setCell kgR _)⟩
theorem aof_any (n:Int) (w:World) (h0: -9223372036854775808≤n) (h1:n≤9223372036854775807):
  Calls Tryz.prog 67 #[.int .i64 n] w fun e w'=>e= .returned (rv (n:Rat))∧Below w.heap.size w w':=by
 rcases Int.lt_or_le n 0 with hn|hn
 ·have e1:=Lib.hid (show(nb (-(n+1)).toNat).size≤8 from nbs (by omega) (by decide))
  have e2:=Lib.hid (show(-(n+1)).toNat+1=n.natAbs by omega)
  have e3:=Lib.hid (show true=decide ((n:Rat).num<0) by rw[Rat.num_intCast,decide_eq_true hn])
  have s1:=e1.out
  have w1:IntKind.i64.wrap (n+1)=n+1:=by rw[IntKind.wrap_i64];omega
  go_enter Tryz.func67,Tryz.ntmps67
  have⟨bR,ag⟩:=opn1 w [.bool false,.string ⟨#[]⟩,.string ⟨#[]⟩] 33
  go_upto_region 1 with fail
  generalize w.alloc (.cells #[.bool false,.string ⟨#[]⟩,.string ⟨#[]⟩] 33)=W0 at*;obtain⟨gR,hgR⟩: ∃g,g=w.heap.size:=⟨_,rfl⟩;rw[←hgR] at bR
  simp only[←hgR]
  have kgR:w.heap.size≤gR:=by omega
  clear hgR
  go_wp2_with fail
  with_reducible refine(nof_any (-(n+1)) _ (by omega) (by omega)).mono ?_
  rintro e wZ ⟨rfl,am⟩;have ag:=ag.tr am;have bR:=bR.below am;clear am
  go_wp2_with fail
  with_reducible refine(nadd_any (nb (-(n+1)).toNat) ⟨#[1]⟩ _ (by omega) (by decide)).mono ?_
  rw[bv_nb,bv_1,e2.out];rintro e wZ ⟨rfl,am⟩;have ag:=ag.tr am;have bR:=bR.below am;clear am;have⟨cgR0,fgR0,cgR1,fgR1,cgR2,fgR2⟩:=bR.all3
  go_wp2_with fail
  refine bodyPost_ret (v:=.agg #[.bool true,.string (nb n.natAbs),.string ⟨#[1]⟩]) (by simp[results,Tryz.results67,go_sem,cgR0,cgR1,cgR2]) rfl ⟨congrArg Ending.returned (by rw[←nb_1];exact ret_rv e3.out rfl rfl),(((ag.setCell kgR _).setCell kgR _).setCell kgR _)⟩
 ·have e2:=Lib.hid (show n.toNat=(n:Rat).num.natAbs by rw[Rat.num_intCast];omega)
  have e3:=Lib.hid (show false=decide ((n:Rat).num<0) by rw[Rat.num_intCast,decide_eq_false (by omega)])
  go_enter Tryz.func67,Tryz.ntmps67
  have⟨bR,ag⟩:=opn1 w [.bool false,.string ⟨#[]⟩,.string ⟨#[]⟩] 33
  go_upto_region 1 with fail
  generalize w.alloc (.cells #[.bool false,.string ⟨#[]⟩,.string ⟨#[]⟩] 33)=W0 at*;obtain⟨gR,hgR⟩: ∃g,g=w.heap.size:=⟨_,rfl⟩;rw[←hgR] at bR
  simp only[←hgR]
  have kgR:w.heap.size≤gR:=by omega
  clear hgR
  go_wp2_with fail
  with_reducible refine(nof_any n _ (by omega) (by omega)).mono ?_
  rintro e wZ ⟨rfl,am⟩;have ag:=ag.tr am;have bR:=bR.below am;clear am;have⟨cgR0,fgR0,cgR1,fgR1,cgR2,fgR2⟩:=bR.all3
  go_wp2_with fail
  refine bodyPost_ret (v:=.agg #[.bool false,.string (nb n.toNat),.string ⟨#[1]⟩]) (by simp[results,Tryz.results67,go_sem,cgR0,cgR1,cgR2]) rfl ⟨congrArg Ending.returned (by rw[←nb_1];exact ret_rv e3.out e2.out rfl),(((ag.setCell kgR _).setCell kgR _).setCell kgR _)⟩
theorem asign_any (q:Rat) (w:World) (hq:Sz q 134217728):
  Calls Tryz.prog 90 #[rv q] w fun e w'=>e= .returned (.int .i64 (sgn q))∧Below w.heap.size w w':=by
 by_cases hz:q.num.natAbs=0
 ·have he:(nb q.num.natAbs).toList= []:=by rw[hz];exact nb0_nil
  have hs:=Lib.hid (show(0:Int)=sgn q by unfold sgn;rw[if_pos hz])
  clear hz;unfold rv
  go_enter Tryz.func90,Tryz.ntmps90
  have⟨bA,ag⟩:=opn1 w [.bool (decide (q.num<0)),.string (nb q.num.natAbs),.string (nb q.den)] 33
  go_upto_region 1 with fail
  generalize w.alloc (.cells #[.bool (decide (q.num<0)),.string (nb q.num.natAbs),.string (nb q.den)] 33)=W0 at*;obtain⟨gA,hgA⟩: ∃g,g=w.heap.size:=⟨_,rfl⟩;rw[←hgA] at bA
  simp only[←hgA]
  have kgA:w.heap.size≤gA:=by omega
  clear hgA;have⟨cgA0,fA0,cA1,fA1,cgA2,fA2⟩:=bA.all3
  go_wp2_with fail
  clear cgA0 fA0 cA1 fA1 cgA2 fA2
  with_reducible refine(avalue_any q _ hq).mono ?_
  rintro e wZ ⟨rfl,am⟩;have ag:=ag.tr am;have bA:=bA.below am;clear am;have⟨cgA0,fA0,cA1,fA1,cgA2,fA2⟩:=bA.all3;unfold rv;have ag:=((ag.setCell (p:=⟨gA,0,none⟩) kgA (.bool (decide (q.num<0)))).setCell (p:=⟨gA,1,none⟩) kgA (.string (nb q.num.natAbs))).setCell (p:=⟨gA,2,none⟩) kgA (.string (nb q.den));have bA:=bA.put3 (.bool (decide (q.num<0))) (.string (nb q.num.natAbs)) (.string (nb q.den))
  go_upto_region 2 with fail
  clear cgA0 fA0 cA1 fA1 cgA2 fA2;generalize ((wZ.setCell ⟨gA,0,none⟩ (.bool (decide (q.num<0)))).setCell ⟨gA,1,none⟩ (.string (nb q.num.natAbs))).setCell ⟨gA,2,none⟩ (.string (nb q.den))=WS at*;have⟨cgA0,fA0,cA1,fA1,cgA2,fA2⟩:=bA.all3
  go_wp2_with fail
  go_ret
  exact⟨ret_int hs.out,ag⟩
 ·have hne:=nb_ne hz
  have hie:=nb_isE hz
  by_cases hn:q.num<0
  ·have Hd:=Lib.hid (show decide (q.num<0)=true from decide_eq_true hn)
   have hs:=Lib.hid (show(-1:Int)=sgn q by unfold sgn;rw[if_neg hz,if_pos hn])
   clear hz hn;unfold rv
   go_enter Tryz.func90,Tryz.ntmps90
   have⟨bA,ag⟩:=opn1 w [.bool (decide (q.num<0)),.string (nb q.num.natAbs),.string (nb q.den)] 33
   go_upto_region 1 with fail
   generalize w.alloc (.cells #[.bool (decide (q.num<0)),.string (nb q.num.natAbs),.string (nb q.den)] 33)=W0 at*;obtain⟨gA,hgA⟩: ∃g,g=w.heap.size:=⟨_,rfl⟩;rw[←hgA] at bA
   simp only[←hgA]
   have kgA:w.heap.size≤gA:=by omega
   clear hgA;have⟨cgA0,fA0,cA1,fA1,cgA2,fA2⟩:=bA.all3
   go_wp2_with fail
   clear cgA0 fA0 cA1 fA1 cgA2 fA2
   with_reducible refine(avalue_any q _ hq).mono ?_
   rintro e wZ ⟨rfl,am⟩;have ag:=ag.tr am;have bA:=bA.below am;clear am;have⟨cgA0,fA0,cA1,fA1,cgA2,fA2⟩:=bA.all3;unfold rv;have ag:=((ag.setCell (p:=⟨gA,0,none⟩) kgA (.bool (decide (q.num<0)))).setCell (p:=⟨gA,1,none⟩) kgA (.string (nb q.num.natAbs))).setCell (p:=⟨gA,2,none⟩) kgA (.string (nb q.den));have bA:=bA.put3 (.bool (decide (q.num<0))) (.string (nb q.num.natAbs)) (.string (nb q.den))
   go_upto_region 2 with fail
   clear cgA0 fA0 cA1 fA1 cgA2 fA2;generalize ((wZ.setCell ⟨gA,0,none⟩ (.bool (decide (q.num<0)))).setCell ⟨gA,1,none⟩ (.string (nb q.num.natAbs))).setCell ⟨gA,2,none⟩ (.string (nb q.den))=WS at*;have hd:=Hd.out;have⟨cgA0,fA0,cA1,fA1,cgA2,fA2⟩:=bA.all3
   go_wp2_with fail
   go_ret
   exact⟨ret_int hs.out,ag⟩
  ·have Hd:=Lib.hid (show decide (q.num<0)=false from decide_eq_false hn)
   have hs:=Lib.hid (show(1:Int)=sgn q by unfold sgn;rw[if_neg hz,if_neg hn])
   clear hz hn;unfold rv
   go_enter Tryz.func90,Tryz.ntmps90
   have⟨bA,ag⟩:=opn1 w [.bool (decide (q.num<0)),.string (nb q.num.natAbs),.string (nb q.den)] 33
   go_upto_region 1 with fail
   generalize w.alloc (.cells #[.bool (decide (q.num<0)),.string (nb q.num.natAbs),.string (nb q.den)] 33)=W0 at*;obtain⟨gA,hgA⟩: ∃g,g=w.heap.size:=⟨_,rfl⟩;rw[←hgA] at bA
   simp only[←hgA]
   have kgA:w.heap.size≤gA:=by omega
   clear hgA;have⟨cgA0,fA0,cA1,fA1,cgA2,fA2⟩:=bA.all3
   go_wp2_with fail
   clear cgA0 fA0 cA1 fA1 cgA2 fA2
   with_reducible refine(avalue_any q _ hq).mono ?_
   rintro e wZ ⟨rfl,am⟩;have ag:=ag.tr am;have bA:=bA.below am;clear am;have⟨cgA0,fA0,cA1,fA1,cgA2,fA2⟩:=bA.all3;unfold rv;have ag:=((ag.setCell (p:=⟨gA,0,none⟩) kgA (.bool (decide (q.num<0)))).setCell (p:=⟨gA,1,none⟩) kgA (.string (nb q.num.natAbs))).setCell (p:=⟨gA,2,none⟩) kgA (.string (nb q.den));have bA:=bA.put3 (.bool (decide (q.num<0))) (.string (nb q.num.natAbs)) (.string (nb q.den))
   go_upto_region 2 with fail
   clear cgA0 fA0 cA1 fA1 cgA2 fA2;generalize ((wZ.setCell ⟨gA,0,none⟩ (.bool (decide (q.num<0)))).setCell ⟨gA,1,none⟩ (.string (nb q.num.natAbs))).setCell ⟨gA,2,none⟩ (.string (nb q.den))=WS at*;have hd:=Hd.out;have⟨cgA0,fA0,cA1,fA1,cgA2,fA2⟩:=bA.all3
   go_wp2_with fail
   go_ret
   exact⟨ret_int hs.out,ag⟩
theorem aneg_any (q:Rat) (w:World) (hq:Sz q 134217728):
  Calls Tryz.prog 114 #[rv q] w fun e w'=>e= .returned (rv (-q))∧Below w.heap.size w w':=by
 have n1:=Lib.hid (neg_parts q).1.symm;have n2:=Lib.hid (neg_parts q).2.symm;have n3:=Lib.hid (neg_sign q)
 by_cases hn:q.num<0
 ·have Hd:=Lib.hid (show decide (q.num<0)=true from decide_eq_true hn)
  have hs:=Lib.hid (show false=decide ((-q).num<0) by rw[n3.out,Hd.out];rfl)
  clear hn;unfold rv
  go_enter Tryz.func114,Tryz.ntmps114
  have⟨bA,bR,ag⟩:=opn2 w [.bool (decide (q.num<0)),.string (nb q.num.natAbs),.string (nb q.den)] [.bool false,.string ⟨#[]⟩,.string ⟨#[]⟩] 33 33
  go_upto_region 1 with fail
  generalize (w.alloc (.cells #[.bool (decide (q.num<0)),.string (nb q.num.natAbs),.string (nb q.den)] 33)).alloc (.cells #[.bool false,.string ⟨#[]⟩,.string ⟨#[]⟩] 33)=W0 at*;generalize hgR:w.heap.size+1=gR at*;obtain⟨gA,hgA⟩: ∃g,g=w.heap.size:=⟨_,rfl⟩;rw[←hgA] at bA
  simp only[←hgA]
  have ngAgR:gA≠gR:=by omega
  have kgA:w.heap.size≤gA:=by omega
  have kgR:w.heap.size≤gR:=by omega
  clear hgA hgR;have⟨cgA0,fA0,cA1,fA1,cgA2,fA2⟩:=bA.all3
  go_wp2_with fail
  clear cgA0 fA0 cA1 fA1 cgA2 fA2
  with_reducible refine(avalue_any q _ hq).mono ?_
  rintro e wZ ⟨rfl,am⟩;have ag:=ag.tr am;have bA:=bA.below am;have bR:=bR.below am;clear am;unfold rv;have⟨cgA0,fA0,cA1,fA1,cgA2,fA2⟩:=bA.all3;have ag:=((ag.setCell (p:=⟨gA,0,none⟩) kgA (.bool (decide (q.num<0)))).setCell (p:=⟨gA,1,none⟩) kgA (.string (nb q.num.natAbs))).setCell (p:=⟨gA,2,none⟩) kgA (.string (nb q.den));have bR:=(((bR.other (p:=⟨gA,0,none⟩) ngAgR (.bool (decide (q.num<0)))).other (p:=⟨gA,1,none⟩) ngAgR (.string (nb q.num.natAbs))).other (p:=⟨gA,2,none⟩) ngAgR (.string (nb q.den)))
  have bA:=bA.put3 (.bool (decide (q.num<0))) (.string (nb q.num.natAbs)) (.string (nb q.den))
  go_upto_region 2 with fail
  clear cgA0 fA0 cA1 fA1 cgA2 fA2;generalize ((wZ.setCell ⟨gA,0,none⟩ (.bool (decide (q.num<0)))).setCell ⟨gA,1,none⟩ (.string (nb q.num.natAbs))).setCell ⟨gA,2,none⟩ (.string (nb q.den))=WS at*;have hd:=Hd.out;have⟨cgA0,fA0,cA1,fA1,cgA2,fA2⟩:=bA.all3;have ag:=ag.setCell (p:=⟨gA,0,none⟩) kgA (.bool false);have bR:=bR.other (p:=⟨gA,0,none⟩) ngAgR (.bool false)
  have bA:=bA.put 0 (.bool false) (by simp)
  simp only[List.set] at bA
  go_upto_region 3 with fail
  clear cgA0 fA0 cA1 fA1 cgA2 fA2;generalize WS.setCell ⟨gA,0,none⟩ (.bool false)=WS at*;have⟨cgA0,fA0,cA1,fA1,cgA2,fA2⟩:=bA.all3;have⟨cgR0,fgR0,cgR1,fgR1,cgR2,fgR2⟩:=bR.all3
  go_wp2_with fail
  refine bodyPost_ret (v:=.agg #[.bool false,.string (nb q.num.natAbs),.string (nb q.den)]) (by simp[results,Tryz.results114,go_sem,cgR0,cgR1,cgR2]) rfl ⟨congrArg Ending.returned (ret_rv hs.out n1.out n2.out),(((ag.setCell kgR _).setCell kgR _).setCell kgR _)⟩
 ·have Hd:=Lib.hid (show decide (q.num<0)=false from decide_eq_false hn)
  by_cases hz:q.num.natAbs=0
  ·have he:(nb q.num.natAbs).toList= []:=by rw[hz];exact nb0_nil
   have hs:=Lib.hid (show false=decide ((-q).num<0) by rw[n3.out,Hd.out,decide_eq_false (by simpa using hz)];rfl)
   clear hn hz;unfold rv
   go_enter Tryz.func114,Tryz.ntmps114
   have⟨bA,bR,ag⟩:=opn2 w [.bool (decide (q.num<0)),.string (nb q.num.natAbs),.string (nb q.den)] [.bool false,.string ⟨#[]⟩,.string ⟨#[]⟩] 33 33
   go_upto_region 1 with fail
   generalize (w.alloc (.cells #[.bool (decide (q.num<0)),.string (nb q.num.natAbs),.string (nb q.den)] 33)).alloc (.cells #[.bool false,.string ⟨#[]⟩,.string ⟨#[]⟩] 33)=W0 at*;generalize hgR:w.heap.size+1=gR at*;obtain⟨gA,hgA⟩: ∃g,g=w.heap.size:=⟨_,rfl⟩;rw[←hgA] at bA
   simp only[←hgA]
   have ngAgR:gA≠gR:=by omega
   have kgA:w.heap.size≤gA:=by omega
   have kgR:w.heap.size≤gR:=by omega
   clear hgA hgR;have⟨cgA0,fA0,cA1,fA1,cgA2,fA2⟩:=bA.all3
   go_wp2_with fail
   clear cgA0 fA0 cA1 fA1 cgA2 fA2
   with_reducible refine(avalue_any q _ hq).mono ?_
   rintro e wZ ⟨rfl,am⟩;have ag:=ag.tr am;have bA:=bA.below am;have bR:=bR.below am;clear am;unfold rv;have⟨cgA0,fA0,cA1,fA1,cgA2,fA2⟩:=bA.all3;have ag:=((ag.setCell (p:=⟨gA,0,none⟩) kgA (.bool (decide (q.num<0)))).setCell (p:=⟨gA,1,none⟩) kgA (.string (nb q.num.natAbs))).setCell (p:=⟨gA,2,none⟩) kgA (.string (nb q.den))
   have bR:=(((bR.other (p:=⟨gA,0,none⟩) ngAgR (.bool (decide (q.num<0)))).other (p:=⟨gA,1,none⟩) ngAgR (.string (nb q.num.natAbs))).other (p:=⟨gA,2,none⟩) ngAgR (.string (nb q.den)));have bA:=bA.put3 (.bool (decide (q.num<0))) (.string (nb q.num.natAbs)) (.string (nb q.den))
   go_upto_region 2 with fail
   clear cgA0 fA0 cA1 fA1 cgA2 fA2;generalize ((wZ.setCell ⟨gA,0,none⟩ (.bool (decide (q.num<0)))).setCell ⟨gA,1,none⟩ (.string (nb q.num.natAbs))).setCell ⟨gA,2,none⟩ (.string (nb q.den))=WS at*;have hd:=Hd.out;have⟨cgA0,fA0,cA1,fA1,cgA2,fA2⟩:=bA.all3;have ag:=ag.setCell (p:=⟨gA,0,none⟩) kgA (.bool false);have bR:=bR.other (p:=⟨gA,0,none⟩) ngAgR (.bool false)
   have bA:=bA.put 0 (.bool false) (by simp)
   simp only[List.set] at bA
   go_upto_region 3 with fail
   clear cgA0 fA0 cA1 fA1 cgA2 fA2;generalize WS.setCell ⟨gA,0,none⟩ (.bool false)=WS at*;have⟨cgA0,fA0,cA1,fA1,cgA2,fA2⟩:=bA.all3;have⟨cgR0,fgR0,cgR1,fgR1,cgR2,fgR2⟩:=bR.all3
   go_wp2_with fail
   refine bodyPost_ret (v:=.agg #[.bool false,.string (nb q.num.natAbs),.string (nb q.den)]) (by simp[results,Tryz.results114,go_sem,cgR0,cgR1,cgR2]) rfl ⟨congrArg Ending.returned (ret_rv hs.out n1.out n2.out),(((ag.setCell kgR _).setCell kgR _).setCell kgR _)⟩
  ·have hne:=nb_ne hz
   have hie:=nb_isE hz
   have hs:=Lib.hid (show true=decide ((-q).num<0) by rw[n3.out,Hd.out,decide_eq_true hz];rfl)
   clear hn hz;unfold rv
   go_enter Tryz.func114,Tryz.ntmps114
   have⟨bA,bR,ag⟩:=opn2 w [.bool (decide (q.num<0)),.string (nb q.num.natAbs),.string (nb q.den)] [.bool false,.string ⟨#[]⟩,.string ⟨#[]⟩] 33 33
   go_upto_region 1 with fail
   generalize (w.alloc (.cells #[.bool (decide (q.num<0)),.string (nb q.num.natAbs),.string (nb q.den)] 33)).alloc (.cells #[.bool false,.string ⟨#[]⟩,.string ⟨#[]⟩] 33)=W0 at*;generalize hgR:w.heap.size+1=gR at*;obtain⟨gA,hgA⟩: ∃g,g=w.heap.size:=⟨_,rfl⟩;rw[←hgA] at bA
   simp only[←hgA]
   have ngAgR:gA≠gR:=by omega
   have kgA:w.heap.size≤gA:=by omega
   have kgR:w.heap.size≤gR:=by omega
   clear hgA hgR;have⟨cgA0,fA0,cA1,fA1,cgA2,fA2⟩:=bA.all3
   go_wp2_with fail
   clear cgA0 fA0 cA1 fA1 cgA2 fA2
   with_reducible refine(avalue_any q _ hq).mono ?_
   rintro e wZ ⟨rfl,am⟩;have ag:=ag.tr am;have bA:=bA.below am;have bR:=bR.below am;clear am;unfold rv;have⟨cgA0,fA0,cA1,fA1,cgA2,fA2⟩:=bA.all3;have ag:=((ag.setCell (p:=⟨gA,0,none⟩) kgA (.bool (decide (q.num<0)))).setCell (p:=⟨gA,1,none⟩) kgA (.string (nb q.num.natAbs))).setCell (p:=⟨gA,2,none⟩) kgA (.string (nb q.den))
   have bR:=(((bR.other (p:=⟨gA,0,none⟩) ngAgR (.bool (decide (q.num<0)))).other (p:=⟨gA,1,none⟩) ngAgR (.string (nb q.num.natAbs))).other (p:=⟨gA,2,none⟩) ngAgR (.string (nb q.den)));have bA:=bA.put3 (.bool (decide (q.num<0))) (.string (nb q.num.natAbs)) (.string (nb q.den))
   go_upto_region 2 with fail
   clear cgA0 fA0 cA1 fA1 cgA2 fA2;generalize ((wZ.setCell ⟨gA,0,none⟩ (.bool (decide (q.num<0)))).setCell ⟨gA,1,none⟩ (.string (nb q.num.natAbs))).setCell ⟨gA,2,none⟩ (.string (nb q.den))=WS at*;have hd:=Hd.out;have⟨cgA0,fA0,cA1,fA1,cgA2,fA2⟩:=bA.all3;have ag:=ag.setCell (p:=⟨gA,0,none⟩) kgA (.bool true);have bR:=bR.other (p:=⟨gA,0,none⟩) ngAgR (.bool true)
   have bA:=bA.put 0 (.bool true) (by simp)
   simp only[List.set] at bA
   go_upto_region 3 with fail
   clear cgA0 fA0 cA1 fA1 cgA2 fA2;generalize WS.setCell ⟨gA,0,none⟩ (.bool true)=WS at*;have⟨cgA0,fA0,cA1,fA1,cgA2,fA2⟩:=bA.all3;have⟨cgR0,fgR0,cgR1,fgR1,cgR2,fgR2⟩:=bR.all3
   go_wp2_with fail
   refine bodyPost_ret (v:=.agg #[.bool true,.string (nb q.num.natAbs),.string (nb q.den)]) (by simp[results,Tryz.results114,go_sem,cgR0,cgR1,cgR2]) rfl ⟨congrArg Ending.returned (ret_rv hs.out n1.out n2.out),(((ag.setCell kgR _).setCell kgR _).setCell kgR _)⟩
theorem nmul_n {w:World} {i j:Nat} (a b:Nat) (ha:(nb a).size≤i) (hb:(nb b).size≤j) (h:i≤134217728∧j≤134217728):Calls Tryz.prog 108 #[.string (nb a),.string (nb b)] w fun e w'=>e= .returned (.string (nb (a*b)))∧Below w.heap.size w w':=by
 have:=nmul_any (nb a) (nb b) w (Nat.le_trans ha h.1) (Nat.le_trans hb h.2)
 rwa [bv_nb,bv_nb] at this
theorem nadd_n {w:World} {i j:Nat} (a b:Nat) (ha:(nb a).size≤i) (hb:(nb b).size≤j) (h:i≤1073741823∧j≤1073741823):Calls Tryz.prog 99 #[.string (nb a),.string (nb b)] w fun e w'=>e= .returned (.string (nb (a+b)))∧Below w.heap.size w w':=by
 have:=nadd_any (nb a) (nb b) w (Nat.le_trans ha h.1) (Nat.le_trans hb h.2)
 rwa [bv_nb,bv_nb] at this
theorem nsub_y {w:World} {i j:Nat} (a b:Nat) (ha:(nb a).size≤i) (hb:(nb b).size≤j) (h:i≤1073741823∧j≤1073741823) (hl:b≤a):Calls Tryz.prog 110 #[.string (nb a),.string (nb b)] w fun e w'=>e= .returned (.tuple #[.string (nb (a-b)),.bool true])∧Below w.heap.size w w':=by
 have:=nsub_yes (nb a) (nb b) w (Nat.le_trans ha h.1) (Nat.le_trans hb h.2) (by rw[bv_nb,bv_nb];exact hl)
 rwa [bv_nb,bv_nb] at this
theorem nsub_n {w:World} {i j:Nat} (a b:Nat) (ha:(nb a).size≤i) (hb:(nb b).size≤j) (h:i≤1073741823∧j≤1073741823) (hl:a<b):Calls Tryz.prog 110 #[.string (nb a),.string (nb b)] w fun e w'=>e= .returned (.tuple #[.string ⟨#[]⟩,.bool false])∧Below w.heap.size w w':=
 (nsub_no (nb a) (nb b) w (Nat.le_trans ha h.1) (Nat.le_trans hb h.2) (by rw[bv_nb,bv_nb];exact hl)).mono fun _ _ h=>⟨h.1,h.2▸Below.refl _ _⟩
end Go.Proofs.YtinmmkcjjlconaaGreat
namespace Go.Proofs.YtinmmkcjjlconaaGreat
open Go.RowKit W
open Pl (bval enc bv nb bv_nb nb_size_le nb_size_zero nb_size_mono nb_bv_size bv_lt cmpN nb_inj)
open Rq
theorem amul_any (p q:Rat) (w:World) (hp:Sz p 33554432) (hq:Sz q 33554432):
  Calls Tryz.prog 79 #[rv p,rv q] w fun e w'=>e= .returned (rv (p*q))∧Below w.heap.size w w':=by
 unfold rv
 go_enter Tryz.func79,Tryz.ntmps79
 obtain⟨W0,gA,gB,gR,hQ,⟨a0,a0',a1,a1',a2,a2'⟩,⟨b0,b0',b1,b1',b2,b2'⟩,bR,n1,n2,n3,ag⟩:=opnR2 w p q 33
 go_upto_region 1 with fail
 obtain⟨hW,hR,hB,hA⟩:=hQ.out;rw[hW,hR,hB,hA];clear hW hR hB hA hQ;have hS:=Off.refl (fun b=>b=gR) W0;have s1:=size_mul hp.1 hq.1;have s2:=size_mul hp.2 hq.2;have E:=Lib.hid (show mk (!(decide (p.num<0)==decide (q.num<0))) (p.num.natAbs*q.num.natAbs) (p.den*q.den)=p*q from mul_mk p q)
 refine wp_schS (.p 0 (.p 2 (.c 1 (.c 3 (.c 4 (.c 5 .e)))))) [2,3] fun A W hA hb hS=>?_
 replace bR:=bR.below hb
 repeat(refine isP ?_;refine tkO ?_)
 refine clO (avalue_any p _ (hp.mono (by decide))) fun W hb hS=>?_
 replace bR:=bR.below hb
 refine clO (avalue_any q _ (hq.mono (by decide))) fun W hb hS=>?_
 replace bR:=bR.below hb
 refine smO ?_
 refine smO ?_
 refine enO hA ?_
 go_upto_region 2 with fail
 refine wp_schS (ps 0 9 (ps 10 4 (.c 9 (.c 14 (.c 15 (.c 16 .e)))))) [2,3,4] fun A W hA hb hS=>?_
 replace bR:=bR.below hb
 repeat(refine isP ?_;refine tkO ?_)
 refine clO (nmul_n _ _ hp.1 hq.1 (by decide)) fun W hb hS=>?_
 replace bR:=bR.below hb
 refine clO (nmul_n _ _ hp.2 hq.2 (by decide)) fun W hb hS=>?_
 replace bR:=bR.below hb
 refine clO (E.out▸areduced_any (!(decide (p.num<0)==decide (q.num<0))) _ _ _ (Nat.mul_pos p.den_pos q.den_pos) (Nat.le_trans s1 (by decide)) (Nat.le_trans s2 (by decide))) fun W hb hS=>?_
 replace bR:=bR.below hb
 refine st3 bR fun W bR _ hS=>?_
 refine enO hA ?_
 go_wp2_with fail
 exact bodyPost_ret (retc3 rfl rfl bR.c3) rfl ⟨rfl,offB ag hS n3 ag.size⟩
theorem aquo_any (p q:Rat) (w:World) (hp:Sz p 33554432) (hq:Sz q 33554432) (hz:q≠0):
  Calls Tryz.prog 127 #[rv p,rv q] w fun e w'=>e= .returned (.tuple #[rv (p/q),.bool true])∧Below w.heap.size w w':=by
 have hn0:q.num.natAbs≠0:=fun e=>hz (num_zero.1 e);have hne:=nb_ne hn0;have hie:=nb_isE hn0;have E:=Lib.hid (show mk (!(decide (p.num<0)==decide (q.num<0))) (p.num.natAbs*q.den) (p.den*q.num.natAbs)=p/q from div_mk (p:=p) hz)
 have nq:0<q.num.natAbs:=by omega
 clear hz hn0;unfold rv
 go_enter Tryz.func127,Tryz.ntmps127
 obtain⟨W0,gA,gB,gR,hQ,⟨a0,a0',a1,a1',a2,a2'⟩,⟨b0,b0',b1,b1',b2,b2'⟩,bR,n1,n2,n3,ag⟩:=opnR2 w p q 33
 go_upto_region 1 with fail
 obtain⟨hW,hR,hB,hA⟩:=hQ.out;rw[hW,hR,hB,hA];clear hW hR hB hA hQ;have hS:=Off.refl (fun b=>b=gR) W0;have s1:=size_mul hp.1 hq.2;have s2:=size_mul hp.2 hq.1
 refine wp_schS (.p 0 (.p 2 (.c 1 (.c 3 (.c 4 (.c 5 .e)))))) [2,3] fun A W hA hb hS=>?_
 replace bR:=bR.below hb
 repeat(refine isP ?_;refine tkO ?_)
 refine clO (avalue_any p _ (hp.mono (by decide))) fun W hb hS=>?_
 replace bR:=bR.below hb
 refine clO (avalue_any q _ (hq.mono (by decide))) fun W hb hS=>?_
 replace bR:=bR.below hb
 refine smO ?_
 refine smO ?_
 refine enO hA ?_
 have hr:=off_rule hS
 go_upto_region 4 with fail
 clear hr
 refine wp_schS (ps 0 9 (ps 10 4 (.c 9 (.c 14 (.c 15 (.c 16 (.p 17 .e))))))) [2,3,4] fun A W hA hb hS=>?_
 replace bR:=bR.below hb
 repeat(refine isP ?_;refine tkO ?_)
 refine clO (nmul_n _ _ hp.1 hq.2 (by decide)) fun W hb hS=>?_
 replace bR:=bR.below hb
 refine clO (nmul_n _ _ hp.2 hq.1 (by decide)) fun W hb hS=>?_
 replace bR:=bR.below hb
 refine clO (E.out▸areduced_any (!(decide (p.num<0)==decide (q.num<0))) _ _ _ (Nat.mul_pos p.den_pos nq) (Nat.le_trans s1 (by decide)) (Nat.le_trans s2 (by decide))) fun W hb hS=>?_
 replace bR:=bR.below hb
 refine st3 bR fun W bR _ hS=>?_
 refine tkO ?_
 refine enO hA ?_
 go_wp2_with fail
 exact bodyPost_ret (retc4 rfl rfl rfl bR.c3) rfl ⟨rfl,offB ag hS n3 ag.size⟩
theorem aadd_any (p q:Rat) (w:World) (hp:Sz p 33554432) (hq:Sz q 33554432):
  Calls Tryz.prog 78 #[rv p,rv q] w fun e w'=>e= .returned (rv (p+q))∧Below w.heap.size w w':=by
 unfold rv
 go_enter Tryz.func78,Tryz.ntmps78
 obtain⟨W0,gA,gB,gR,hQ,⟨a0,a0',a1,a1',a2,a2'⟩,⟨b0,b0',b1,b1',b2,b2'⟩,bR,n1,n2,n3,ag⟩:=opnR2 w p q 33
 go_upto_region 1 with fail
 obtain⟨hW,hR,hB,hA⟩:=hQ.out;rw[hW,hR,hB,hA];clear hW hR hB hA hQ;have hS:=Off.refl (fun b=>b=gR) W0;have s1:=size_mul hp.1 hq.2;have s2:=size_mul hq.1 hp.2;have s3:=size_mul hp.2 hq.2;have s4:=add_size s1 s2
 refine wp_schS (.p 0 (.p 2 (.c 1 (.c 3 (.c 4 (.c 5 .e)))))) [2,3] fun A W hA hb hS=>?_
 replace bR:=bR.below hb
 repeat(refine isP ?_;refine tkO ?_)
 refine clO (avalue_any p _ (hp.mono (by decide))) fun W hb hS=>?_
 replace bR:=bR.below hb
 refine clO (avalue_any q _ (hq.mono (by decide))) fun W hb hS=>?_
 replace bR:=bR.below hb
 refine smO ?_
 refine smO ?_
 refine enO hA ?_
 go_upto_region 2 with fail
 refine wp_schS (ps 0 4 (ps 5 4 (.c 4 (.c 9 (ps 10 2 .e))))) [2,3] fun A W hA hb hS=>?_
 replace bR:=bR.below hb
 repeat(refine isP ?_;refine tkO ?_)
 refine clO (nmul_n _ _ hp.1 hq.2 (by decide)) fun W hb hS=>?_
 replace bR:=bR.below hb
 refine clO (nmul_n _ _ hq.1 hp.2 (by decide)) fun W hb hS=>?_
 replace bR:=bR.below hb
 repeat(refine isP ?_;refine tkO ?_)
 refine enO hA ?_
 clear hA;have hr:=off_rule hS
 go_wp2_with fail
 refine(nmul_n _ _ hp.2 hq.2 (by decide)).mono ?_
 rintro e W' ⟨rfl,hb⟩;replace bR:=bR.below hb;replace hS:=hS.step hb;replace hr:=off_rule hS
 by_cases h:decide (p.num<0)=decide (q.num<0)
 ·have E:=Lib.hid (add_same h)
  have hc:(decide (p.num<0)==decide (q.num<0))=true:=by rw[h];simp
  clear h
  go_upto_region 5 with fail
  refine wp_schS (ps 0 4 (.p 5 (.c 4 (.c 6 (.c 7 .e))))) [2,5,6,7,4] fun A W hA hb hS=>?_
  replace bR:=bR.below hb
  repeat(refine isP ?_;refine tkO ?_)
  refine clO (nadd_n _ _ s1 s2 (by decide)) fun W hb hS=>?_
  replace bR:=bR.below hb
  refine clO (E.out▸areduced_any (decide (p.num<0)) _ _ _ (Nat.mul_pos p.den_pos q.den_pos) (Nat.le_trans s4 (by decide)) (Nat.le_trans s3 (by decide))) fun W hb hS=>?_
  replace bR:=bR.below hb
  refine st3 bR fun W bR _ hS=>?_
  refine enO hA ?_
  go_wp2_with fail
  exact bodyPost_ret (retc3 rfl rfl bR.c3) rfl ⟨rfl,offB ag hS n3 ag.size⟩
 ·have hc:(decide (p.num<0)==decide (q.num<0))=false:=by simpa using h
  go_wp2_with fail
  rcases Nat.lt_or_ge (p.num.natAbs*q.den) (q.num.natAbs*p.den) with hl|hl
  ·have E:=Lib.hid (add_lt h hl)
   clear h
   refine(nsub_n _ _ s1 s2 (by decide) hl).mono ?_
   rintro e W' ⟨rfl,hb⟩;replace bR:=bR.below hb;replace hS:=hS.step hb;replace hr:=off_rule hS;replace hl:=Nat.le_of_lt hl
   go_wp2_with fail
   refine(nsub_y _ _ s2 s1 (by decide) hl).mono ?_
   rintro e W' ⟨rfl,hb⟩;replace bR:=bR.below hb;replace hS:=hS.step hb;replace hr:=off_rule hS
   go_wp2_with fail
   refine(E.out▸areduced_any (decide (q.num<0)) _ _ _ (Nat.mul_pos p.den_pos q.den_pos) (Nat.le_trans (Nat.le_trans (nb_size_mono (Nat.sub_le _ _)) s2) (by decide)) (Nat.le_trans s3 (by decide))).mono ?_
   rintro e W' ⟨rfl,hb⟩;have⟨r0,r0',r1,r1',r2,r2'⟩:=(bR.below hb).c3
   go_wp2_with fail
   exact bodyPost_ret (retc3 rfl rfl ((bR.below hb).put3 _ _ _).c3) rfl ⟨rfl,offB ag (off_set3 (hS.step hb) rfl) n3 ag.size⟩
  ·have E:=Lib.hid (add_ge h hl)
   clear h
   refine(nsub_y _ _ s1 s2 (by decide) hl).mono ?_
   rintro e W' ⟨rfl,hb⟩;replace bR:=bR.below hb;replace hS:=hS.step hb;replace hr:=off_rule hS
   go_wp2_with fail
   refine(E.out▸areduced_any (decide (p.num<0)) _ _ _ (Nat.mul_pos p.den_pos q.den_pos) (Nat.le_trans (Nat.le_trans (nb_size_mono (Nat.sub_le _ _)) s1) (by decide)) (Nat.le_trans s3 (by decide))).mono ?_
   rintro e W' ⟨rfl,hb⟩;have⟨r0,r0',r1,r1',r2,r2'⟩:=(bR.below hb).c3
   go_wp2_with fail
   exact bodyPost_ret (retc3 rfl rfl ((bR.below hb).put3 _ _ _).c3) rfl ⟨rfl,offB ag (off_set3 (hS.step hb) rfl) n3 ag.size⟩
theorem asub_any (p q:Rat) (w:World) (hp:Sz p 33554432) (hq:Sz q 33554432):
  Calls Tryz.prog 91 #[rv p,rv q] w fun e w'=>e= .returned (rv (p-q))∧Below w.heap.size w w':=by
 have Hn:=Lib.hid (fun W=>aneg_any q W (hq.mono (by decide)))
 have Ha:=Lib.hid (fun W=>aadd_any p (-q) W hp (Sz_neg hq));rw[Rat.sub_eq_add_neg];generalize-q=nq at*;generalize p+nq=r at*;unfold rv
 go_enter Tryz.func91,Tryz.ntmps91
 obtain⟨W0,gA,gB,gR,hQ,⟨a0,a0',a1,a1',a2,a2'⟩,⟨b0,b0',b1,b1',b2,b2'⟩,bR,n1,n2,n3,ag⟩:=opnR2 w p q 33
 go_upto_region 1 with fail
 obtain⟨hW,hR,hB,hA⟩:=hQ.out;rw[hW,hR,hB,hA];clear hW hR hB hA hQ;have hS:=Off.refl (fun b=>b=gR) W0
 refine wp_schS (ps 0 2 (.c 2 (.c 3 (.c 4 .e)))) [2,3,4] fun A W hA hb hS=>?_
 replace bR:=bR.below hb
 repeat(refine isP ?_;refine tkO ?_)
 refine clO (Hn.out _) fun W hb hS=>?_
 replace bR:=bR.below hb
 refine clO (Ha.out _) fun W hb hS=>?_
 replace bR:=bR.below hb
 refine st3 bR fun W bR _ hS=>?_
 refine enO hA ?_
 go_wp2_with fail
 exact bodyPost_ret (retc3 rfl rfl bR.c3) rfl ⟨rfl,offB ag hS n3 ag.size⟩
end Go.Proofs.YtinmmkcjjlconaaGreat
namespace Go.Proofs.YtinmmkcjjlconaaGreat
open Go.RowKit W
open Pl (bval enc bv nb bv_nb nb_size_le nb_size_zero nb_size_mono nb_bv_size bv_lt cmpN nb_inj)
open Rq
theorem str_ne{a b:ByteArray}(h: ¬a=b): ¬a.toList=b.toList:=fun e=>h (by rw[Go.ByteArray.toList_eq,Go.ByteArray.toList_eq] at e;exact Pl.ext_of_data e)
theorem str_neB{a b:ByteArray}(h: ¬a=b):(a.toList==b.toList)=false:=by simpa using str_ne h
theorem acmp_any (p q:Rat) (w:World) (hp:Sz p 33554432) (hq:Sz q 33554432):
  Calls Tryz.prog 57 #[rv p,rv q] w fun e w'=>e= .returned (.int .i64 (sgn (p-q)))∧Below w.heap.size w w':=by
 have Hs:=Lib.hid (fun W=>asub_any p q W hp hq)
 have Hg:=Lib.hid (fun W=>asign_any (p-q) W ((Sz_sub hp hq).mono (by decide)))
 have Vp:=Lib.hid (fun W=>avalue_any p W (hp.mono (by decide)))
 have Vq:=Lib.hid (fun W=>avalue_any q W (hq.mono (by decide)))
 have HE:Hid (decide (p.num<0)=decide (q.num<0)→nb p.num.natAbs=nb q.num.natAbs→nb p.den=nb q.den→(0:Int)=sgn (p-q)):=Lib.hid fun h1 h2 h3=>by
  rw[ext3 h1 (nb_inj h2) (nb_inj h3),Rat.sub_self];rfl
 generalize p-q=d at*;unfold rv
 simp only[rv] at Hs Hg Vp Vq
 generalize decide (p.num<0)=sp at*;generalize decide (q.num<0)=sq at*;generalize nb p.num.natAbs=np at*;generalize nb q.num.natAbs=nq at*;generalize nb p.den=dp at*;generalize nb q.den=dq at*;clear hp hq
 go_enter Tryz.func57,Tryz.ntmps57
 obtain⟨W0,gA,gB,hQ,⟨a0,a0',a1,a1',a2,a2'⟩,⟨b0,b0',b1,b1',b2,b2'⟩,ag⟩:=opnC w sp sq np dp nq dq 33
 go_upto_region 1 with fail
 obtain⟨hW,hB,hA⟩:=hQ.out;rw[hW,hB,hA];clear hW hB hA hQ
 refine wp_schB (.p 0 (.p 2 (.c 1 (.c 3 (.c 4 (.c 5 .e)))))) [2,3] fun A W hA hS=>?_
 repeat(refine isP ?_;refine tkO ?_)
 refine clO (Vp.out _) fun W hb hS=>?_
 refine clO (Vq.out _) fun W hb hS=>?_
 refine smO ?_
 refine smO ?_
 refine enO hA ?_
 have hr:=below_rule hS
 by_cases h1:sp=sq
 ·subst h1
  by_cases h2:np=nq
  ·subst h2
   by_cases h3:dp=dq
   ·subst h3
    have h0:Hid ((0:Int)=sgn d):=by first|exact HE.out rfl rfl rfl|exact HE.out trivial trivial trivial
    go_wp2_with fail
    go_ret
    exact⟨congrArg (fun x=>Ending.returned (.int .i64 x)) h0.out,ag.tr hS⟩
   ·have h4:=str_ne h3
    have h5:=str_neB h3;clear h3
    go_wp2_with fail
    refine(Hs.out _).mono ?_
    rintro e W' ⟨rfl,hb⟩;replace hS:=stepB hS hb;replace hr:=below_rule hS
    go_wp2_with fail
    refine(Hg.out _).mono ?_
    rintro e W' ⟨rfl,hb⟩;replace hS:=stepB hS hb;replace hr:=below_rule hS
    go_wp2_with fail
    go_ret
    exact⟨rfl,ag.tr hS⟩
  ·have h4:=str_ne h2
   have h5:=str_neB h2;clear h2
   go_wp2_with fail
   refine(Hs.out _).mono ?_
   rintro e W' ⟨rfl,hb⟩;replace hS:=stepB hS hb;replace hr:=below_rule hS
   go_wp2_with fail
   refine(Hg.out _).mono ?_
   rintro e W' ⟨rfl,hb⟩;replace hS:=stepB hS hb;replace hr:=below_rule hS
   go_wp2_with fail
   go_ret
   exact⟨rfl,ag.tr hS⟩
 ·cases sp<;>cases sq
  ·exact absurd rfl h1
  rotate_right
  ·exact absurd rfl h1
  all_goals
   clear h1
   go_wp2_with fail
   refine(Hs.out _).mono ?_
   rintro e W' ⟨rfl,hb⟩;replace hS:=stepB hS hb;replace hr:=below_rule hS
   go_wp2_with fail
   refine(Hg.out _).mono ?_
   rintro e W' ⟨rfl,hb⟩;replace hS:=stepB hS hb;replace hr:=below_rule hS
   go_wp2_with fail
   go_ret
   exact⟨rfl,ag.tr hS⟩
structure Raw where
  neg:Bool
  s:ByteArray
  t:ByteArray
def RawsR(w:World)(v:Value)(l:List Raw):Prop:= ∃a cap,v= .slice a l.length cap∧(0<l.length→∃b,a=some ⟨b,0,none⟩∧b<w.heap.size∧∀i (h:i<l.length),w.cell? ⟨b,i*3,none⟩=some (.bool l[i].neg)∧w.cell? ⟨b,i*3+1,none⟩=some (.string l[i].s)∧w.cell? ⟨b,i*3+1+1,none⟩=some (.string l[i].t))
theorem RawsR.below {w w':World} {v:Value} {l:List Raw} (h:RawsR w v l) (hb:Below w.heap.size w w'):RawsR w' v l:=by
 obtain⟨a,cap,rfl,h1⟩:=h
 refine⟨a,cap,rfl,fun h0=>?_⟩
 obtain⟨b,e,hlt,hc⟩:=h1 h0
 exact⟨b,e,Nat.lt_of_lt_of_le hlt hb.size,fun i hi=>⟨(hb.cell (p:=⟨b,i*3,none⟩) hlt).trans (hc i hi).1,(hb.cell (p:=⟨b,i*3+1,none⟩) hlt).trans (hc i hi).2.1,(hb.cell (p:=⟨b,i*3+1+1,none⟩) hlt).trans (hc i hi).2.2⟩⟩
end Go.Proofs.YtinmmkcjjlconaaGreat
namespace Go.Proofs.YtinmmkcjjlconaaGreat
open Go.RowKit W
open Pl (bval enc bv nb bv_nb nb_size_le nb_size_zero nb_size_mono nb_bv_size bv_lt cmpN nb_inj)
open Rq
theorem Sz_int{n:Int}(h0: -9223372036854775808≤n)(h1:n≤9223372036854775807):Sz (n:Rat) 8:=⟨nbs (by rw[Rat.num_intCast];omega) (by decide),nbs (by rw[Rat.den_intCast];decide) (by decide)⟩
end Go.Proofs.YtinmmkcjjlconaaGreat
namespace Go.Proofs.YtinmmkcjjlconaaGreat
open Go.RowKit W
open Pl (nb)
def Raw.cells(x:Raw):List Value:= [.bool x.neg,.string x.s,.string x.t]
def flat3(l:List Raw):List Value:=l.flatMap Raw.cells
theorem flat3_len (l:List Raw):(flat3 l).length=l.length*3:=by
 induction l with
 |nil=>rfl
 |cons x l ih=>simp only[flat3,List.flatMap_cons,List.length_append] at*;rw[ih];simp[Raw.cells];omega
theorem flat3_append(l m:List Raw):flat3 (l++m)=flat3 l++flat3 m:=by simp[flat3]
theorem flat3_get (l:List Raw) (i j:Nat) (hi:i<l.length) (hj:j<3):(flat3 l)[i*3+j]? =(l[i].cells)[j]? :=by
 induction l generalizing i with
 |nil=>simp at hi
 | cons x l ih=>
  simp only[flat3,List.flatMap_cons]
  cases i with
  |zero=>
   rw[List.getElem?_append_left (by simp[Raw.cells];omega)]
   simp
  |succ i=>
   rw[List.getElem?_append_right (by simp[Raw.cells];omega)]
   have:=ih i (by simpa using hi)
   simp only[flat3] at this
   rw[show(i+1)*3+j-x.cells.length=i*3+j by simp[Raw.cells];omega,this]
   simp
theorem flat3_one (l:List Raw): ∀u∈flat3 l,u.oneCell'=true:=by
 intro u hu
 simp only[flat3,List.mem_flatMap] at hu
 obtain⟨t,_,ht⟩:=hu
 simp[Raw.cells] at ht
 rcases ht with rfl|rfl|rfl<;>rfl
def Rats(w:World)(B:Nat)(v:Value)(l:List Raw):Prop:=w.ownsRow B 33 3 v l.length (flat3 l)
section
variable {w w':World} {B g:Nat} {v:Value} {l:List Raw}
theorem Rats.nil(w:World)(B:Nat):Rats w B (.slice none 0 0) []:=World.ownsRow_nil _ _ _ _
theorem Rats.form (h:Rats w B v l): ∃a cap,v= .slice a l.length cap:=by
 rcases h.2 with⟨rfl,hn⟩|⟨g,cap,cur,rfl,hb,hg,hnc,hcm,hcs,htake⟩
 ·exact⟨none,0,by rw[hn]⟩
 ·exact⟨_,cap,rfl⟩
theorem Rats.own(h:Rats w B v l): ∀k,v.ownBlock=some k→B≤k:=fun k hk=>(World.ownsRow.lt h k hk).1
theorem Rats.low(h:Rats w B v l): ∀k,v.ownBlock=some k→k<w.heap.size:=fun k hk=>(World.ownsRow.lt h k hk).2
theorem Rats.alloc(h:Rats w B v l)(o:Obj):Rats (w.alloc o) B v l:=World.ownsRow.alloc h o
theorem Rats.below (h:Rats w B v l) (hb:Below w.heap.size w w'):Rats w' B v l:=by
 rcases h.2 with⟨rfl,hn⟩|⟨g,cap,cur,rfl,hb2,hg,hnc,hcm,hcs,htake⟩
 ·exact⟨h.1,.inl ⟨rfl,hn⟩⟩
 ·exact⟨h.1,.inr ⟨g,cap,cur,rfl,hb2,by rw[hb.block g (Array.getElem?_eq_some_iff.1 hg).1];exact hg,hnc,hcm,hcs,htake⟩⟩
theorem Rats.drew(h:Rats w B v l):Rats w.drew B v l:=h
theorem Rats.mono{B':Nat}(h:Rats w B v l)(hb:B'≤B):Rats w B' v l:=⟨h.1,h.2.imp id (fun⟨g,cap,cur,a,b,c⟩=>⟨g,cap,cur,a,by omega,c⟩)⟩
theorem Rats.kept {row:Option Nat} (h:Rats w B v l) (hg:w.grownBy w' row) (hne: ∀k,v.ownBlock=some k→row≠some k):Rats w' B v l:=
 World.ownsRow.kept h hg (by
  cases hv:v.ownBlock with
  |none=>exact .inl rfl
  |some k=>right;exact fun e=>hne k hv e.symm)
theorem Rats.raws (h:Rats w B v l):RawsR w v l:=by
 rcases h.2 with⟨rfl,hn⟩|⟨g,cap,cur,rfl,hb,hg,hnc,hcm,hcs,htake⟩
 ·exact⟨none,0,by rw[hn],fun h0=>by omega⟩
 ·refine⟨_,cap,rfl,fun _=>⟨g,rfl,(Array.getElem?_eq_some_iff.1 hg).1,fun i hi=>?_⟩⟩
  have key:=fun j hj=>(World.ownsRow.cellAt h (i*3+j) (by omega)).trans (flat3_get l i j hi hj)
  exact⟨key 0 (by decide),key 1 (by decide),key 2 (by decide)⟩
theorem Rats.lit (w:World) (hB:B≤w.heap.size) (l:List Raw) (hl:l.length≤1000):Rats (w.alloc (.cells (flat3 l).toArray 33)) B (.slice (some ⟨w.heap.size,0,none⟩) l.length l.length) l:=by
 have:=World.ownsRow_lit (e:=33) (size:=3) w (flat3 l).toArray l.length hB (by simp[maxLen];omega) (by simpa using flat3_len l)
 simpa [Rats] using this
end
theorem info_rat:(Tryz.prog.info? 33).map (fun i=>(i.zero,i.size,i.bytes))=some (some (.agg #[.bool false,.string ⟨#[]⟩,.string ⟨#[]⟩]),3,40):=by kernel_rfl
theorem run_app_rats {w:World} {B B2:Nat} {v v2:Value} {l l2:List Raw} (ty:TypeId) (h:Rats w B v l) (h2:Rats w B2 v2 l2) (hlen:l.length+l2.length<1000000000) (hB:B≤w.heap.size):
  ∃v' w',(Builtin.append_ #[27,27] ty #[v,v2]).run Tryz.prog w= .ok v' w'∧Rats w' B v' (l++l2)∧w.grownBy w' v.ownBlock∧(v'.ownBlock=v.ownBlock∨v'.ownBlock=some w.heap.size):=by
 obtain⟨i0,hi,hz0,hz1,hz2⟩:=info_parts info_rat
 rcases h2.2 with⟨rfl,hn⟩|⟨g,cap,cur,rfl,hb,hg,hnc,hcm,hcs,htake⟩
 ·refine⟨v,w,run_append_owned_none (P:=Tryz.prog) (w:=w) B 27 ty 33 i0 3 Tryz.underlying27 hi v _ _ h,?_,World.grownBy.refl _ _,.inl rfl⟩
  have:l2= []:=List.eq_nil_of_length_eq_zero hn;subst this
  simpa using h
 ·obtain⟨v',w',hr,e2,e3,_,e5⟩:=run_append_own_at (P:=Tryz.prog) w B 27 ty 33 i0 _ 3 40 Tryz.underlying27 hi hz0 hz1 hz2 rfl (by decide) v _ _ h ⟨g,0,none⟩ l2.length cap (flat3 l2) (flat3_len _) (World.ownsRow.cells h2 rfl) (flat3_one _) (by unfold maxLen;omega) (by omega) hB
  refine⟨v',w',hr,?_,e3,e5⟩
  unfold Rats;rw[List.length_append,flat3_append]
  exact e2
theorem app_rats {w:World} {ops:Array Oper} {rest:List Oper} {o:Oper} {a:Act} {Q:Exit→Act→World→Prop} {s x:Operand} {v v2:Value} {l l2:List Raw} {B2:Nat}
  (hgd:o.guard=none)
  (ho:o.op= .call {callee:=.builtin .append,args:= #[s,x],argTypes:= #[27,27]})
  (hs:a.eval s=v) (hx:a.eval x=v2) (B:Nat) (hown:Rats w B v l) (h2:Rats w B2 v2 l2)
  (hlen:l.length+l2.length<1000000000) (hB:B≤w.heap.size)
  (h: ∀v' w',Rats w' B v' (l++l2)→w.grownBy w' v.ownBlock→(v'.ownBlock=v.ownBlock∨v'.ownBlock=some w.heap.size)→wpList Tryz.prog ops Q rest (a.put o.dst v') w'):wpList Tryz.prog ops Q (o::rest) a w:=by
 refine wpList_plain hgd fun K hK=>?_
 obtain⟨v',w',hr,e1,e2,e3⟩:=run_app_rats o.type hown h2 hlen hB;unfold Oper.wp execOp
 simp only[ho,resolve,invoke,builtin,Sem.run_bind,Sem.run_pure,Result.andThen_ok,List.map_toArray,List.map_cons,List.map_nil,hs,hx,hr]
 exact hK _ _ (h v' w' e1 e2 e3)
theorem step_rats {w:World} {ops:Array Oper} {o:Oper} {a:Act} {K:Act→World→Prop} {Q:Exit→Act→World→Prop} {E:Prop} {s x:Operand} {v v2:Value} {l l2:List Raw} {B2:Nat}
  (hgd:o.guard=none)
  (ho:o.op= .call {callee:=.builtin .append,args:= #[s,x],argTypes:= #[27,27]})
  (hs:a.eval s=v) (hx:a.eval x=v2) (B:Nat) (hown:Rats w B v l) (h2:Rats w B2 v2 l2)
  (hlen:l.length+l2.length<1000000000) (hB:B≤w.heap.size)
  (h: ∀v' w',Rats w' B v' (l++l2)→w.grownBy w' v.ownBlock→(v'.ownBlock=v.ownBlock∨v'.ownBlock=some w.heap.size)→K (a.put o.dst v') w'):if Region.wanted o (yielded ops a.tmps)=true then Oper.wp Tryz.prog o a w K Q else E:=by
 have hw:Region.wanted o (yielded ops a.tmps)=true:=by simp[Region.wanted,hgd]
 rw[if_pos hw];obtain⟨v',w',hr,e1,e2,e3⟩:=run_app_rats o.type hown h2 hlen hB;unfold Oper.wp execOp
 simp only[ho,resolve,invoke,builtin,Sem.run_bind,Sem.run_pure,Result.andThen_ok,List.map_toArray,List.map_cons,List.map_nil,hs,hx,hr]
 exact h v' w' e1 e2 e3
end Go.Proofs.YtinmmkcjjlconaaGreat
namespace Go.Proofs.YtinmmkcjjlconaaGreat
open Go.RowKit W
open Pl (bval enc bv nb bv_nb nb_size_le nb_size_zero nb_size_mono nb_bv_size bv_lt cmpN nb_inj)
open Rq
structure T3 where
  x:Int
  y:Int
  z:Int
end Go.Proofs.YtinmmkcjjlconaaGreat
namespace Go.Proofs.YtinmmkcjjlconaaGreat
open Go.RowKit W
open Pl (nb)
abbrev NoB:Nat→Prop:=fun _=>False
section
variable {M M':Nat→Prop} {w w' w'':World}
theorem Rx.off {g:Nat} {vs:List Value} (h:Rx w g vs) (ho:Off M w w') (hm: ¬M g):Rx w' g vs:=
 ⟨Nat.lt_of_lt_of_le h.1 ho.size,fun i _ hv=>⟨(ho.cell (p:=⟨g,i,none⟩) h.1 hm).trans (h.at i hv),(ho.frozen (p:=⟨g,i,none⟩) h.1 hm).trans (h.fr i hv)⟩⟩
end
structure V3 where
  a:Value
  b:Value
  c:Value
def q3(q:Rat):V3:=⟨.bool (decide (q.num<0)),.string (nb q.num.natAbs),.string (nb q.den)⟩
def z3:V3:=⟨.bool false,.string ⟨#[]⟩,.string ⟨#[]⟩⟩
def upd{α:Type}(F:Nat→α)(i:Nat)(q:α)(j:Nat):α:=if j=i then q else F j
theorem upd_same{α:Type}(F:Nat→α)(i:Nat)(q:α):upd F i q i=q:=if_pos rfl
theorem upd_ne{α:Type}{F:Nat→α}{i j:Nat}{q:α}(h:j≠i):upd F i q j=F j:=if_neg h
structure RowF (w:World) (b m:Nat) (F:Nat→Rat):Prop where
  lt:b<w.heap.size
  at_: ∀i,i<m→w.cell? ⟨b,i*3,none⟩=some (.bool (decide ((F i).num<0)))∧w.cell? ⟨b,i*3+1,none⟩=some (.string (nb (F i).num.natAbs))∧w.cell? ⟨b,i*3+1+1,none⟩=some (.string (nb (F i).den))
structure Row3 (w:World) (b m:Nat) (V:Nat→V3):Prop where
  lt:b<w.heap.size
  at_: ∀i,i<m→w.cell? ⟨b,i*3,none⟩=some (V i).a∧w.cell? ⟨b,i*3+1,none⟩=some (V i).b∧w.cell? ⟨b,i*3+1+1,none⟩=some (V i).c
  fr: ∀j,w.frozen? ⟨b,j,none⟩=false
structure RowC (w:World) (b m:Nat) (V:Nat→Value):Prop where
  lt:b<w.heap.size
  at_: ∀i,i<m→w.cell? ⟨b,i,none⟩=some (V i)
  fr: ∀j,w.frozen? ⟨b,j,none⟩=false
def sto3(w:World)(b i:Nat)(v:V3):World:=((w.setCell ⟨b,i*3,none⟩ v.a).setCell ⟨b,i*3+1,none⟩ v.b).setCell ⟨b,i*3+1+1,none⟩ v.c
section
variable {M:Nat→Prop} {w w':World} {b c m:Nat} {F G:Nat→Rat} {V U:Nat→V3} {X Y:Nat→Value}
theorem RowF.off (h:RowF w b m F) (ho:Off M w w') (hm: ¬M b):RowF w' b m F:=
 ⟨Nat.lt_of_lt_of_le h.1 ho.size,fun i hi=>⟨(ho.cell (p:=⟨b,i*3,none⟩) h.1 hm).trans (h.2 i hi).1,(ho.cell (p:=⟨b,i*3+1,none⟩) h.1 hm).trans (h.2 i hi).2.1,(ho.cell (p:=⟨b,i*3+1+1,none⟩) h.1 hm).trans (h.2 i hi).2.2⟩⟩
theorem RowF.below(h:RowF w b m F)(ho:Below w.heap.size w w'):RowF w' b m F:=h.off (M:=NoB) (off_of ho) (fun e=>e)
theorem RowF.congr(h:RowF w b m F)(he: ∀i,i<m→F i=G i):RowF w b m G:=⟨h.1,fun i hi=>by rw[←he i hi];exact h.2 i hi⟩
theorem Row3.off (h:Row3 w b m V) (ho:Off M w w') (hm: ¬M b):Row3 w' b m V:=
 ⟨Nat.lt_of_lt_of_le h.1 ho.size,fun i hi=>⟨(ho.cell (p:=⟨b,i*3,none⟩) h.1 hm).trans (h.2 i hi).1,(ho.cell (p:=⟨b,i*3+1,none⟩) h.1 hm).trans (h.2 i hi).2.1,(ho.cell (p:=⟨b,i*3+1+1,none⟩) h.1 hm).trans (h.2 i hi).2.2⟩,fun j=>(ho.frozen (p:=⟨b,j,none⟩) h.1 hm).trans (h.3 j)⟩
theorem Row3.below(h:Row3 w b m V)(ho:Below w.heap.size w w'):Row3 w' b m V:=h.off (M:=NoB) (off_of ho) (fun e=>e)
theorem Row3.congr(h:Row3 w b m V)(he: ∀i,i<m→V i=U i):Row3 w b m U:=⟨h.1,fun i hi=>by rw[←he i hi];exact h.2 i hi,h.3⟩
theorem Row3.row(h:Row3 w b m V)(he: ∀i,i<m→V i=q3 (F i)):RowF w b m F:=⟨h.1,fun i hi=>by have:=h.2 i hi;rw[he i hi] at this;exact this⟩
theorem RowC.off (h:RowC w b m X) (ho:Off M w w') (hm: ¬M b):RowC w' b m X:=
 ⟨Nat.lt_of_lt_of_le h.1 ho.size,fun i hi=>(ho.cell (p:=⟨b,i,none⟩) h.1 hm).trans (h.2 i hi),fun j=>(ho.frozen (p:=⟨b,j,none⟩) h.1 hm).trans (h.3 j)⟩
theorem RowC.below(h:RowC w b m X)(ho:Below w.heap.size w w'):RowC w' b m X:=h.off (M:=NoB) (off_of ho) (fun e=>e)
theorem RowC.congr(h:RowC w b m X)(he: ∀i,i<m→X i=Y i):RowC w b m Y:=⟨h.1,fun i hi=>by rw[←he i hi];exact h.2 i hi,h.3⟩
theorem ne_addr {b c x y:Nat} (h:b≠c∨x≠y):(⟨c,y,none⟩:Addr)≠⟨b,x,none⟩:=fun e=>by
 injection e with e1 e2
 rcases h with h|h
 ·exact h e1.symm
 ·exact h e2.symm
theorem cell_oth{w:World}{p q:Addr}{v:Value}(h:q≠p):(w.setCell p v).cell? q=w.cell? q:=by first|exact World.cell?_setCell_other w p q v h|exact World.cell?_setCell_other w p q v (Ne.symm h)
theorem Row3.put (h:Row3 w b m V) {i:Nat} (hi:i<m) (v:V3):Row3 (sto3 w b i v) b m (upd V i v):=by
 have hs: ∀(u:World) (p:Addr) (x:Value),(u.setCell p x).heap.size=u.heap.size:=fun u p x=>by simp[World.setCell]
 refine⟨by unfold sto3;rw[hs,hs,hs];exact h.1,fun j hj=>?_,fun j=>by unfold sto3;rw[World.frozen?_setCell,World.frozen?_setCell,World.frozen?_setCell];exact h.3 j⟩
 obtain⟨a0,a1,a2⟩:=h.2 i hi;obtain⟨b0,b1,b2⟩:=h.2 j hj;have n: ∀ {x y:Nat} {u:World} {z:Value},x≠y→(u.setCell ⟨b,x,none⟩ z).cell? ⟨b,y,none⟩=u.cell? ⟨b,y,none⟩:=fun hh=>cell_oth (ne_addr (.inr hh));unfold sto3
 by_cases e:j=i
 ·subst e
  rw[upd_same]
  refine⟨?_,?_,?_⟩
  ·rw[n (by omega),n (by omega)]
   exact World.cell?_setCell_same _ _ _ a0
  ·rw[n (by omega)]
   exact World.cell?_setCell_same _ _ _ ((n (by omega)).trans a1)
  ·exact World.cell?_setCell_same _ _ _ ((n (by omega)).trans ((n (by omega)).trans a2))
 ·rw[upd_ne e]
  refine⟨?_,?_,?_⟩
  ·rw[n (by omega),n (by omega),n (by omega)];exact b0
  ·rw[n (by omega),n (by omega),n (by omega)];exact b1
  ·rw[n (by omega),n (by omega),n (by omega)];exact b2
theorem RowC.put (h:RowC w b m X) {i:Nat} (hi:i<m) (v:Value):RowC (w.setCell ⟨b,i,none⟩ v) b m (upd X i v):=by
 refine⟨by simpa [World.setCell] using h.1,fun j hj=>?_,fun j=>by rw[World.frozen?_setCell];exact h.3 j⟩
 by_cases e:j=i
 ·subst e;rw[upd_same];exact World.cell?_setCell_same _ _ _ (h.2 j hj)
 ·rw[upd_ne e,cell_oth (ne_addr (.inr (Ne.symm e)))];exact h.2 j hj
theorem off_sto3(hM:M b)(i:Nat)(v:V3):Off M w (sto3 w b i v):=(((Off.refl M w).set (p:=⟨b,i*3,none⟩) hM _).set (p:=⟨b,i*3+1,none⟩) hM _).set (p:=⟨b,i*3+1+1,none⟩) hM _
end
section
variable {w w':World} {b c m:Nat} {V:Nat→V3} {X:Nat→Value}
theorem Row3.alloc(h:Row3 w b m V)(o:Obj):Row3 (w.alloc o) b m V:=h.below ((Below.refl _ _).alloc (Nat.le_refl _) o)
theorem Row3.drew(h:Row3 w b m V):Row3 w.drew b m V:=h.below ((Below.refl _ _).drew)
theorem Row3.other(h:Row3 w b m V){p:Addr}(hne:p.block≠b)(u:Value):Row3 (w.setCell p u) b m V:=h.off (M:=fun k=>k=p.block) ((Off.refl (fun k=>k=p.block) _).set rfl u) (fun e=>hne e.symm)
theorem RowC.alloc(h:RowC w b m X)(o:Obj):RowC (w.alloc o) b m X:=h.below ((Below.refl _ _).alloc (Nat.le_refl _) o)
theorem RowC.drew(h:RowC w b m X):RowC w.drew b m X:=h.below ((Below.refl _ _).drew)
theorem RowC.other(h:RowC w b m X){p:Addr}(hne:p.block≠b)(u:Value):RowC (w.setCell p u) b m X:=h.off (M:=fun k=>k=p.block) ((Off.refl (fun k=>k=p.block) _).set rfl u) (fun e=>hne e.symm)
theorem RowF.alloc{F:Nat→Rat}(h:RowF w b m F)(o:Obj):RowF (w.alloc o) b m F:=h.below ((Below.refl _ _).alloc (Nat.le_refl _) o)
theorem RowF.drew{F:Nat→Rat}(h:RowF w b m F):RowF w.drew b m F:=h.below ((Below.refl _ _).drew)
theorem below_sto3{B:Nat}(h:Below B w w'){g i:Nat}(hg:B≤g)(v:V3):Below B w (sto3 w' g i v):=((h.setCell (p:=⟨g,i*3,none⟩) hg _).setCell (p:=⟨g,i*3+1,none⟩) hg _).setCell (p:=⟨g,i*3+1+1,none⟩) hg _
theorem Rx.sto3o{g h i:Nat}{vs:List Value}(hx:Rx w g vs)(hne:h≠g)(v:V3):Rx (sto3 w h i v) g vs:=((hx.other (p:=⟨h,i*3,none⟩) hne _).other (p:=⟨h,i*3+1,none⟩) hne _).other (p:=⟨h,i*3+1+1,none⟩) hne _
theorem Row3.sto3o{h i:Nat}(hx:Row3 w b m V)(hne:h≠b)(v:V3):Row3 (sto3 w h i v) b m V:=((hx.other (p:=⟨h,i*3,none⟩) hne _).other (p:=⟨h,i*3+1,none⟩) hne _).other (p:=⟨h,i*3+1+1,none⟩) hne _
end
def slBlk:Value→Option Nat
  | .slice (some a) _ _=>some a.block
  |_=>none
def SlR(w:World)(v:Value)(m:Nat)(F:Nat→Rat):Prop:= ∃a cap,v= .slice a m cap∧(0<m→∃b,a=some ⟨b,0,none⟩∧RowF w b m F)
def MatR(w:World)(v:Value)(m n:Nat)(A:Nat→Nat→Rat):Prop:= ∃a cap,v= .slice a m cap∧(0<m→∃b,a=some ⟨b,0,none⟩∧b<w.heap.size∧∀i,i<m→∃vi,w.cell? ⟨b,i,none⟩=some vi∧SlR w vi n (A i))
section
variable {M:Nat→Prop} {w w':World} {v:Value} {m n:Nat} {F G:Nat→Rat} {A:Nat→Nat→Rat}
theorem SlR.off (h:SlR w v m F) (ho:Off M w w') (hm: ∀b,slBlk v=some b→¬M b):SlR w' v m F:=by
 obtain⟨a,cap,rfl,h1⟩:=h
 refine⟨a,cap,rfl,fun h0=>?_⟩
 obtain⟨b,e,hb⟩:=h1 h0
 exact⟨b,e,hb.off ho (hm b (by rw[e];rfl))⟩
theorem SlR.below(h:SlR w v m F)(ho:Below w.heap.size w w'):SlR w' v m F:=h.off (M:=NoB) (off_of ho) (fun _ _ e=>e)
theorem SlR.congr (h:SlR w v m F) (he: ∀i,i<m→F i=G i):SlR w v m G:=by
 obtain⟨a,cap,rfl,h1⟩:=h
 refine⟨a,cap,rfl,fun h0=>?_⟩
 obtain⟨b,e,hb⟩:=h1 h0
 exact⟨b,e,hb.congr he⟩
theorem MatR.below (h:MatR w v m n A) (ho:Below w.heap.size w w'):MatR w' v m n A:=by
 obtain⟨a,cap,rfl,h1⟩:=h
 refine⟨a,cap,rfl,fun h0=>?_⟩
 obtain⟨b,e,hb,hc⟩:=h1 h0
 refine⟨b,e,Nat.lt_of_lt_of_le hb ho.size,fun i hi=>?_⟩
 obtain⟨vi,h2,h3⟩:=hc i hi
 exact⟨vi,(ho.cell (p:=⟨b,i,none⟩) hb).trans h2,h3.below ho⟩
end
structure RowO (w:World) (b o m:Nat) (F:Nat→Rat):Prop where
  lt:b<w.heap.size
  at_: ∀i,i<m→w.cell? ⟨b,o+i*3,none⟩=some (.bool (decide ((F i).num<0)))∧w.cell? ⟨b,o+i*3+1,none⟩=some (.string (nb (F i).num.natAbs))∧w.cell? ⟨b,o+i*3+1+1,none⟩=some (.string (nb (F i).den))
def SlO(w:World)(v:Value)(m:Nat)(F:Nat→Rat):Prop:= ∃a cap,v= .slice a m cap∧(0<m→∃b o,a=some ⟨b,o,none⟩∧RowO w b o m F)
section
variable {M:Nat→Prop} {w w':World} {v:Value} {m:Nat} {F:Nat→Rat}
theorem SlR.o (h:SlR w v m F):SlO w v m F:=by
 obtain⟨a,cap,rfl,h1⟩:=h
 refine⟨a,cap,rfl,fun h0=>?_⟩
 obtain⟨b,e,hb⟩:=h1 h0
 exact⟨b,0,e,hb.1,fun i hi=>by rw[Nat.zero_add];exact hb.2 i hi⟩
instance:Coe (SlR w v m F) (SlO w v m F):=⟨SlR.o⟩
theorem SlO.off (h:SlO w v m F) (ho:Off M w w') (hm: ∀b,slBlk v=some b→¬M b):SlO w' v m F:=by
 obtain⟨a,cap,rfl,h1⟩:=h
 refine⟨a,cap,rfl,fun h0=>?_⟩
 obtain⟨b,o,e,hb⟩:=h1 h0
 have hn:=hm b (by rw[e];rfl)
 refine⟨b,o,e,Nat.lt_of_lt_of_le hb.1 ho.size,fun i hi=>?_⟩
 obtain⟨h2,h3,h4⟩:=hb.2 i hi
 exact⟨(ho.cell (p:=⟨b,_,none⟩) hb.1 hn).trans h2,(ho.cell (p:=⟨b,_,none⟩) hb.1 hn).trans h3,(ho.cell (p:=⟨b,_,none⟩) hb.1 hn).trans h4⟩
theorem SlO.below(h:SlO w v m F)(ho:Below w.heap.size w w'):SlO w' v m F:=h.off (M:=NoB) (off_of ho) (fun _ _ e=>e)
theorem SlO.get {a:Option Addr} {c k:Nat} (h:SlO w (.slice a m c) m F) (hk:k<m): ∃b o,a=some ⟨b,o,none⟩∧∀W,Below w.heap.size w W→W.cell? ⟨b,o+k*3,none⟩=some (.bool (decide ((F k).num<0)))∧W.cell? ⟨b,o+k*3+1,none⟩=some (.string (nb (F k).num.natAbs))∧W.cell? ⟨b,o+k*3+1+1,none⟩=some (.string (nb (F k).den)):=by
 obtain⟨a',c',e,h1⟩:=h
 obtain⟨rfl,rfl⟩:a=a'∧c=c':=by simpa using e
 obtain⟨b,o,e2,hr⟩:=h1 (by omega)
 refine⟨b,o,e2,fun W hb=>?_⟩
 obtain⟨h2,h3,h4⟩:=hr.2 k hk
 exact⟨(hb.cell (p:=⟨b,_,none⟩) hr.1).trans h2,(hb.cell (p:=⟨b,_,none⟩) hr.1).trans h3,(hb.cell (p:=⟨b,_,none⟩) hr.1).trans h4⟩
end
def Enters(g:Nat):Prop:= ∀args w,(callFunc g args).run Tryz.prog w= .ok (.enter g args) w
def Fn1 (M:Nat→Prop) (g:Nat) (pre lb:Array Value) (n:Nat) (F:Nat→Rat) (w:World):Prop:=
  ∀(W:World) (k:Nat),k<n→Off M w W→Calls Tryz.prog g (pre.push (.int .i64 (k:Int))++lb) W fun e w'=>e= .returned (rv (F k))∧Below W.heap.size W w'
section
variable {M M':Nat→Prop} {g:Nat} {pre lb:Array Value} {n n':Nat} {F G:Nat→Rat} {w W:World}
theorem Fn1.later(h:Fn1 M g pre lb n F w)(ho:Off M w W):Fn1 M g pre lb n F W:=fun W' k hk ho'=>h W' k hk (ho.trans ho')
theorem Fn1.mono(h:Fn1 M g pre lb n F w)(hM: ∀k,k<w.heap.size→M' k→M k)(hn:n'≤n):Fn1 M' g pre lb n' F w:=fun W k hk ho=>h W k (by omega) (ho.mono hM)
theorem Fn1.below(h:Fn1 M g pre lb n F w)(ho:Below w.heap.size w W):Fn1 M g pre lb n F W:=h.later (off_of ho)
theorem Fn1.alloc(h:Fn1 M g pre lb n F w)(o:Obj):Fn1 M g pre lb n F (w.alloc o):=h.below ((Below.refl _ _).alloc (Nat.le_refl _) o)
theorem Fn1.drew(h:Fn1 M g pre lb n F w):Fn1 M g pre lb n F w.drew:=h.below (Below.refl _ _).drew
theorem Fn1.none(h:Fn1 M g pre lb n F w):Fn1 NoB g pre lb n F w:=h.mono (fun _ _ e=>e.elim) (Nat.le_refl _)
theorem Fn1.congr(h:Fn1 M g pre lb n F w)(he: ∀k,k<n→F k=G k):Fn1 M g pre lb n G w:=fun W k hk ho=>by rw[←he k hk];exact h W k hk ho
end
def zr3(m:Nat):Array Value:=madeCells (Value.agg #[.bool false,.string ⟨#[]⟩,.string ⟨#[]⟩]).cells (m*3)
theorem run_mkR (c:Int) (m:Nat) (h:c=m) (hm:m≤100000) (w:World):(Instr.makeSlice 27 (.int .i64 c) (.int .i64 c)).run Tryz.prog w= .ok (.slice (some ⟨w.heap.size,0,none⟩) m m) (w.alloc (.cells (zr3 m) 33)):=by
 subst h;obtain⟨i0,hi,hz0,hz1,hz2⟩:=info_parts info_rat
 have:=run_make (P:=Tryz.prog) w 27 33 i0 (.agg #[.bool false,.string ⟨#[]⟩,.string ⟨#[]⟩]) Tryz.underlying27 hi hz0 .i64 .i64 m m (by omega) (by omega) (by rw[hz2];omega) (by omega)
 rw[this,hz1,Int.toNat_natCast];rfl
theorem zr3_at (m i j:Nat) (hi:i<m) (hj:j<3):(zr3 m)[i*3+j]? =some (#[.bool false,.string ⟨#[]⟩,.string ⟨#[]⟩]:Array Value)[j]! :=by
 unfold zr3 madeCells
 rw[Array.getElem?_map,Array.getElem?_range,if_pos (by omega)]
 simp only[Option.map_some]
 show some ((#[.bool false,.string ⟨#[]⟩,.string ⟨#[]⟩]:Array Value)[(i*3+j)%3]!)=_
 rw[show(i*3+j)%3=j by omega]
theorem Row3.made (w:World) (m:Nat):Row3 (w.alloc (.cells (zr3 m) 33)) w.heap.size m (fun _=>z3):=by
 have hn:(w.alloc (.cells (zr3 m) 33)).heap[w.heap.size]? =some (.cells (zr3 m) 33 (0,0)):=heap_alloc_new w _
 refine⟨by simp,fun i hi=>⟨?_,?_,?_⟩,fun j=>by rw[World.frozen?,hn];rfl⟩
 ·rw[cell_of_row _ _ _ _ _ _ hn];exact zr3_at m i 0 hi (by decide)
 ·rw[cell_of_row _ _ _ _ _ _ hn];exact zr3_at m i 1 hi (by decide)
 ·rw[cell_of_row _ _ _ _ _ _ hn];exact zr3_at m i 2 hi (by decide)
theorem info_bool:(Tryz.prog.info? 4).map (fun i=>(i.zero,i.size,i.bytes))=some (some (.bool false),1,1):=by kernel_rfl
def zrb(m:Nat):Array Value:=madeCells (Value.bool false).cells (m*1)
theorem run_mkB (c:Int) (m:Nat) (h:c=m) (hm:m≤100000) (w:World):(Instr.makeSlice 95 (.int .i64 c) (.int .i64 c)).run Tryz.prog w= .ok (.slice (some ⟨w.heap.size,0,none⟩) m m) (w.alloc (.cells (zrb m) 4)):=by
 subst h;obtain⟨i0,hi,hz0,hz1,hz2⟩:=info_parts info_bool
 have:=run_make (P:=Tryz.prog) w 95 4 i0 (.bool false) Tryz.underlying95 hi hz0 .i64 .i64 m m (by omega) (by omega) (by rw[hz2];omega) (by omega)
 rw[this,hz1,Int.toNat_natCast];rfl
theorem RowC.made (w:World) (m:Nat):RowC (w.alloc (.cells (zrb m) 4)) w.heap.size m (fun _=>.bool false):=by
 have hn:(w.alloc (.cells (zrb m) 4)).heap[w.heap.size]? =some (.cells (zrb m) 4 (0,0)):=heap_alloc_new w _
 refine⟨by simp,fun i hi=>?_,fun j=>by rw[World.frozen?,hn];rfl⟩
 rw[cell_of_row _ _ _ _ _ _ hn];unfold zrb madeCells
 rw[Array.getElem?_map,Array.getElem?_range,if_pos (by omega)]
 simp[Value.cells,Nat.mod_one]
theorem Sz_S {n k:Nat} {f:Nat→Rat} (h: ∀i,i<n→Sz (f i) k): ∀t,t≤n→Sz (Lp.S t f) ((k+1)*t+8):=by
 intro t
 induction t with
 |zero=>intro _;exact(Sz_int (n:=0) (by decide) (by decide)).mono (by omega)
 |succ t ih=>
  intro ht
  rw[Lp.S_succ]
  exact(Sz_add (ih (by omega)) (h t (by omega))).mono (by rw[Nat.mul_succ];omega)
end Go.Proofs.YtinmmkcjjlconaaGreat
namespace Go.Proofs.YtinmmkcjjlconaaGreat
open Go.RowKit W
open Pl (nb bv bv_nb nb_size_zero)
open Lp (S S_succ)
theorem nb_nil {q:Rat}:(nb q.num.natAbs).toList= []↔q=0:=by
 constructor
 ·intro h
  have:=nb_size_zero.1 (toList_nil.1 h)
  exact Rat.num_eq_zero.1 (Int.natAbs_eq_zero.1 this)
 ·intro h;rw[h];exact nb0_nil
theorem lz_any (q:Rat) (w:World):Calls Tryz.prog 77 #[rv q] w fun e w'=>e= .returned (.bool (decide (q=0)))∧Below w.heap.size w w':=by
 unfold rv;have hq:=nb_nil (q:=q)
 by_cases h:q=0
 ·rw[decide_eq_true h]
  have he:=hq.2 h
  have hie:(nb q.num.natAbs).toList.isEmpty=true:=by rw[he];rfl
  clear hq h;generalize decide (q.num<0)=q0 at*;generalize nb q.num.natAbs=q1 at*;generalize nb q.den=q2 at*
  go_enter Tryz.func77,Tryz.ntmps77
  have⟨bA,ag⟩:=opn1 w [.bool q0,.string q1,.string q2] 33
  go_upto_region 1 with fail
  generalize w.alloc (.cells #[.bool q0,.string q1,.string q2] 33)=W0 at*;obtain⟨gA,hgA⟩: ∃g,g=w.heap.size:=⟨_,rfl⟩;rw[←hgA] at bA
  simp only[←hgA]
  have kgA:w.heap.size≤gA:=by omega
  clear hgA;have⟨cgA0,fA0,cA1,fA1,cgA2,fA2⟩:=bA.all3
  go_wp2_with fail
  go_ret
  exact⟨rfl,ag⟩
 ·rw[decide_eq_false h]
  have hne: ¬(nb q.num.natAbs).toList= []:=fun e=>h (hq.1 e)
  have hie:(nb q.num.natAbs).toList.isEmpty=false:=by simpa using hne
  clear hq h;generalize decide (q.num<0)=q0 at*;generalize nb q.num.natAbs=q1 at*;generalize nb q.den=q2 at*
  go_enter Tryz.func77,Tryz.ntmps77
  have⟨bA,ag⟩:=opn1 w [.bool q0,.string q1,.string q2] 33
  go_upto_region 1 with fail
  generalize w.alloc (.cells #[.bool q0,.string q1,.string q2] 33)=W0 at*;obtain⟨gA,hgA⟩: ∃g,g=w.heap.size:=⟨_,rfl⟩;rw[←hgA] at bA
  simp only[←hgA]
  have kgA:w.heap.size≤gA:=by omega
  clear hgA;have⟨cgA0,fA0,cA1,fA1,cgA2,fA2⟩:=bA.all3
  go_wp2_with fail
  go_ret
  exact⟨rfl,ag⟩
theorem at_any (a:Option Addr) (m cap:Nat) (w:World):Calls Tryz.prog 44 #[.slice a m cap] w fun e w'=>e= .returned (.func (.func 80) #[] #[.pointer (some ⟨w.heap.size,0,none⟩)])∧w'=w.alloc (.cells #[.slice a m cap] 27):=by
 go_enter Tryz.func44,Tryz.ntmps44
 go_wp2
 go_ret
 exact⟨rfl,rfl⟩
theorem at1_any (v:Value) (m:Nat) (G:Nat→Rat) (B k:Nat) (w:World) (h:SlO w v m G) (hB:w.cell? ⟨B,0,none⟩=some v) (hl:B<w.heap.size) (hk:k<m):
  Calls Tryz.prog 80 #[.int .i64 (k:Int),.pointer (some ⟨B,0,none⟩)] w fun e w'=>e= .returned (rv (G k))∧Below w.heap.size w w':=by
 obtain⟨a,cap,rfl,h1⟩:=h
 obtain⟨b,o,rfl,hr⟩:=h1 (by omega)
 obtain⟨c0,c1,c2⟩:=hr.2 k hk;have hb:=hr.1;clear hr h1
 have hk0:(0:Int)≤(k:Int):=by omega
 have hk1:(k:Int)<(m:Int):=by omega
 unfold rv
 go_enter Tryz.func80,Tryz.ntmps80
 have⟨bR,ag⟩:=opn1 w [.bool false,.string ⟨#[]⟩,.string ⟨#[]⟩] 33
 go_upto_region 1 with fail
 generalize w.alloc (.cells #[.bool false,.string ⟨#[]⟩,.string ⟨#[]⟩] 33)=W0 at*;obtain⟨gR,hgR⟩: ∃g,g=w.heap.size:=⟨_,rfl⟩;rw[←hgR] at bR
 simp only[←hgR]
 have kgR:w.heap.size≤gR:=by omega
 clear hgR;have hB:=(ag.cell (p:=⟨B,0,none⟩) hl).trans hB;have c0:=(ag.cell (p:=⟨b,o+k*3,none⟩) hb).trans c0;have c1:=(ag.cell (p:=⟨b,o+k*3+1,none⟩) hb).trans c1;have c2:=(ag.cell (p:=⟨b,o+k*3+1+1,none⟩) hb).trans c2;have⟨cgR0,fgR0,cgR1,fgR1,cgR2,fgR2⟩:=bR.all3
 go_wp2_with fail
 refine bodyPost_ret (v:=.agg #[.bool (decide ((G k).num<0)),.string (nb (G k).num.natAbs),.string (nb (G k).den)]) (by simp[results,Tryz.results80,go_sem,cgR0,cgR1,cgR2]) rfl ⟨rfl,(((ag.setCell kgR _).setCell kgR _).setCell kgR _)⟩
theorem at_fn (v:Value) (m:Nat) (G:Nat→Rat) (B:Nat) (w:World) (h:SlO w v m G) (hB:w.cell? ⟨B,0,none⟩=some v) (hl:B<w.heap.size):Fn1 NoB 80 #[] #[.pointer (some ⟨B,0,none⟩)] m G w:=
 fun W k hk ho=>at1_any v m G B k W (h.off ho (fun _ _ e=>e)) ((ho.cell (p:=⟨B,0,none⟩) hl (fun e=>e)).trans hB) (Nat.lt_of_lt_of_le hl ho.size) hk
theorem at_callO (v:Value) (m:Nat) (G:Nat→Rat) (w:World) (h:SlO w v m G):Calls Tryz.prog 44 #[v] w fun e w'=> ∃B,e= .returned (.func (.func 80) #[] #[.pointer (some ⟨B,0,none⟩)])∧Fn1 NoB 80 #[] #[.pointer (some ⟨B,0,none⟩)] m G w'∧Below w.heap.size w w':=by
 obtain⟨a,cap,rfl,h1⟩:=h
 refine(at_any a m cap w).mono ?_
 rintro e w' ⟨rfl,rfl⟩;have hb:=(Below.refl w.heap.size w).alloc (Nat.le_refl _) (.cells #[.slice a m cap] 27)
 refine⟨w.heap.size,rfl,at_fn _ m G _ _ (SlO.below ⟨a,cap,rfl,h1⟩ hb) ?_ (by simp),hb⟩
 rw[cell_of_row _ _ _ _ _ _ (heap_alloc_new w _)];rfl
theorem at_call(v:Value)(m:Nat)(G:Nat→Rat)(w:World)(h:SlR w v m G):Calls Tryz.prog 44 #[v] w fun e w'=> ∃B,e= .returned (.func (.func 80) #[] #[.pointer (some ⟨B,0,none⟩)])∧Fn1 NoB 80 #[] #[.pointer (some ⟨B,0,none⟩)] m G w'∧Below w.heap.size w w':=at_callO v m G w h.o
theorem at_enters:Enters 80:=enters_of Tryz.func80 (by kernel_rfl) rfl
theorem dot_any (n e:Nat) (hn:n≤100000) (he:n*(2*e+1)≤33000000) (F G:Nat→Rat) (ga gb:Nat) (pa la pb lb:Array Value) (w:World) (ea:Enters ga) (eb:Enters gb)
  (ha:Fn1 NoB ga pa la n F w) (hb:Fn1 NoB gb pb lb n G w) (sF: ∀k,k<n→Sz (F k) e) (sG: ∀k,k<n→Sz (G k) e):
  Calls Tryz.prog 43 #[.int .i64 (n:Int),.func (.func ga) pa la,.func (.func gb) pb lb] w fun e w'=>e= .returned (rv (S n fun k=>F k*G k))∧Below w.heap.size w w':=by
 have ea: ∀args w,(callFunc ga args).run Tryz.prog w= .ok (.enter ga args) w:=ea;have eb: ∀args w,(callFunc gb args).run Tryz.prog w= .ok (.enter gb args) w:=eb;have HFa:=Lib.hid (fun W k (hk:k<n) (ho:Below w.heap.size w W)=>ha W k hk (off_of ho));have HFb:=Lib.hid (fun W k (hk:k<n) (ho:Below w.heap.size w W)=>hb W k hk (off_of ho));obtain⟨P,hP⟩: ∃P:Nat→Rat,P=fun t=>S t fun k=>F k*G k:=⟨_,rfl⟩
 rw[show S n (fun k=>F k*G k)=P n by rw[hP]]
 have HP1:Hid (∀k,P (k+1)=P k+F k*G k):=Lib.hid (fun k=>by rw[hP];rfl)
 have HP0:Hid (P 0=0):=Lib.hid (by rw[hP];rfl)
 have HPs:Hid (∀k,k≤n→Sz (P k) 33554432):=Lib.hid (fun k hk=>by
  have h1:=Sz_S (n:=n) (k:=e+e) (f:=fun k=>F k*G k) (fun i hi=>Sz_mul (sF i hi) (sG i hi)) k hk;rw[hP]
  refine h1.mono ?_
  have h2:(e+e+1)*k≤n*(2*e+1):=by rw[Nat.mul_comm,show e+e+1=2*e+1 by omega];exact Nat.mul_le_mul_right _ hk
  omega)
 have HSz:Hid (∀k,k<n→Sz (F k) 33554432∧Sz (G k) 33554432∧Sz (F k*G k) 33554432):=Lib.hid (fun k hk=>by
  have h2:1*(2*e+1)≤n*(2*e+1):=Nat.mul_le_mul_right _ (by omega)
  exact⟨(sF k hk).mono (by omega),(sG k hk).mono (by omega),(Sz_mul (sF k hk) (sG k hk)).mono (by omega)⟩)
 clear hP sF sG ha hb he
 have HO:=Lib.hid (fun W=>aof_any 0 W (by decide) (by decide))
 rw[show((0:Int):Rat)=0 from rfl,←HP0.out] at HO
 simp only[rv] at HO
 go_enter Tryz.func43,Tryz.ntmps43
 have⟨bR,ag⟩:=opn1 w [.bool false,.string ⟨#[]⟩,.string ⟨#[]⟩] 33
 go_upto_region 1 with fail
 generalize w.alloc (.cells #[.bool false,.string ⟨#[]⟩,.string ⟨#[]⟩] 33)=W0 at*;obtain⟨gR,hgR⟩: ∃g,g=w.heap.size:=⟨_,rfl⟩;rw[←hgR] at bR
 simp only[←hgR]
 have kgR:w.heap.size≤gR:=by omega
 clear hgR
 go_wp2_with fail
 with_reducible refine(HO.out _).mono ?_
 rintro e wZ ⟨rfl,am⟩;replace ag:=ag.tr am;replace bR:=bR.below am;clear am;have kgS:=ag.size;replace ag:=ag.alloc ag.size (.cells #[.bool (decide ((P 0).num<0)),.string (nb (P 0).num.natAbs),.string (nb (P 0).den)] 33);have dgR:=bR.lt;replace bR:=bR.alloc (.cells #[.bool (decide ((P 0).num<0)),.string (nb (P 0).num.natAbs),.string (nb (P 0).den)] 33)
 have bS:Rx (wZ.alloc (.cells #[.bool (decide ((P 0).num<0)),.string (nb (P 0).num.natAbs),.string (nb (P 0).den)] 33)) wZ.heap.size [.bool (decide ((P 0).num<0)),.string (nb (P 0).num.natAbs),.string (nb (P 0).den)]:=Rx.new wZ _ rfl [.bool (decide ((P 0).num<0)),.string (nb (P 0).num.natAbs),.string (nb (P 0).den)] 33
 go_upto_region 2 with fail
 generalize wZ.heap.size=gS at*;generalize wZ.alloc (.cells #[.bool (decide ((P 0).num<0)),.string (nb (P 0).num.natAbs),.string (nb (P 0).den)] 33)=WgS at*
 have ngRgS:gR≠gS:=by omega
 clear dgR
 go_wp2_with fail
 go_loopw [13] (fun i wr=> ∃k:Nat,k≤n∧i= .int .i64 k∧Rx wr gS [.bool (decide ((P k).num<0)),.string (nb (P k).num.natAbs),.string (nb (P k).den)]∧Rx wr gR [.bool false,.string ⟨#[]⟩,.string ⟨#[]⟩]∧Below w.heap.size w wr) (fun i _=>n-(intOf i).toNat)
 case atStart=>exact⟨0,by omega,rfl,bS,bR,ag⟩
 case round=>
  clear ag bS bR;obtain⟨k,hk,rfl,bS,bR,ag⟩:=hrel
  by_cases hlt:k<n
  ·have hk0:(0:Int)≤(k:Int):=by omega
   have hk1:(k:Int)<(n:Int):=by omega
   have HN:=Lib.hid (HP1.out k);obtain⟨sx,sy,sxy⟩:=HSz.out k hlt;have sp:=HPs.out k hk;have HM:=Lib.hid (fun W=>amul_any (F k) (G k) W sx sy);have HA:=Lib.hid (fun W=>aadd_any (P k) (F k*G k) W sp sxy);have HX:=Lib.hid (fun W hW=>HFa.out W k hlt hW);have HY:=Lib.hid (fun W hW=>HFb.out W k hlt hW);have ZX:=Lib.hid (fun W=>lz_any (F k) W);have ZY:=Lib.hid (fun W=>lz_any (G k) W)
   rw[←HN.out] at HA
   have hz:(F k=0∨G k=0)→P (k+1)=P k:=fun h=>by
    rw[HN.out]
    rcases h with h|h
    ·rw[h,Rat.zero_mul,Rat.add_zero]
    ·rw[h,Rat.mul_zero,Rat.add_zero]
   clear HN sx sy sxy sp;have hzx:F k=0→P (k+1)=P k:=fun h=>hz (.inl h);have hzy:G k=0→P (k+1)=P k:=fun h=>hz (.inr h);clear hz
   simp only[rv] at HX HY HM HA ZX ZY
   generalize F k*G k=xy at*;generalize hfx:F k=x at*;generalize hfy:G k=y at*;clear hfx hfy;obtain⟨p1,hp1⟩: ∃p,P (k+1)=p:=⟨_,rfl⟩;rw[hp1] at HA hzx hzy;have HB:=Lib.hid hp1;clear hp1;generalize hp0:P k=p0 at*;have HB0:=Lib.hid hp0;clear hp0
   go_wp2_with fail
   with_reducible refine(HX.out _ ag).mono ?_
   rintro e wZ ⟨rfl,am⟩;replace ag:=ag.tr am;replace bR:=bR.below am;replace bS:=bS.below am;clear am
   go_wp2_with fail
   with_reducible refine(HY.out _ ag).mono ?_
   rintro e wZ ⟨rfl,am⟩;replace ag:=ag.tr am;replace bR:=bR.below am;replace bS:=bS.below am;clear am;have kgX:=ag.size;replace ag:=ag.alloc ag.size (.cells #[.bool (decide (x.num<0)),.string (nb x.num.natAbs),.string (nb x.den)] 33);have kgY:=ag.size;replace ag:=ag.alloc ag.size (.cells #[.bool (decide (y.num<0)),.string (nb y.num.natAbs),.string (nb y.den)] 33)
   have dgR:=bR.lt;have dgS:=bS.lt;replace bR:=(bR.alloc (.cells #[.bool (decide (x.num<0)),.string (nb x.num.natAbs),.string (nb x.den)] 33)).alloc (.cells #[.bool (decide (y.num<0)),.string (nb y.num.natAbs),.string (nb y.den)] 33);replace bS:=(bS.alloc (.cells #[.bool (decide (x.num<0)),.string (nb x.num.natAbs),.string (nb x.den)] 33)).alloc (.cells #[.bool (decide (y.num<0)),.string (nb y.num.natAbs),.string (nb y.den)] 33)
   have bX:=(Rx.new wZ _ rfl [.bool (decide (x.num<0)),.string (nb x.num.natAbs),.string (nb x.den)] 33).alloc (.cells #[.bool (decide (y.num<0)),.string (nb y.num.natAbs),.string (nb y.den)] 33)
   have bY:=Rx.new (wZ.alloc (.cells #[.bool (decide (x.num<0)),.string (nb x.num.natAbs),.string (nb x.den)] 33)) (wZ.heap.size+1) (by simp) [.bool (decide (y.num<0)),.string (nb y.num.natAbs),.string (nb y.den)] 33
   simp only[World.size_alloc] at kgY
   go_upto_region 6 with fail
   generalize hq:wZ.heap.size+1=gY at*;generalize hp:wZ.heap.size=gX at*;generalize (wZ.alloc (.cells #[.bool (decide (x.num<0)),.string (nb x.num.natAbs),.string (nb x.den)] 33)).alloc (.cells #[.bool (decide (y.num<0)),.string (nb y.num.natAbs),.string (nb y.den)] 33)=WgY at*
   have ngRgX:gR≠gX:=by omega
   have ngRgY:gR≠gY:=by omega
   have ngSgX:gS≠gX:=by omega
   have ngSgY:gS≠gY:=by omega
   have ngXgY:gX≠gY:=by omega
   clear hp hq dgR dgS;have⟨cX0,fX0,cX1,fX1,cX2,fX2⟩:=bX.all3
   go_wp2_with fail
   clear cX0 fX0 cX1 fX1 cX2 fX2
   with_reducible refine(ZX.out _).mono ?_
   rintro e wZ ⟨rfl,am⟩;replace ag:=ag.tr am;replace bR:=bR.below am;replace bS:=bS.below am;replace bX:=bX.below am;replace bY:=bY.below am;clear am
   by_cases zx:x=0
   ·rw[decide_eq_true zx]
    have hz:=Lib.hid (hzx zx);clear zx hzx hzy
    go_wp2_with fail
    go_roundw
    case rel=>exact⟨k+1,by omega,by go_num,by rw[HB.out,hz.out];exact bS,bR,ag⟩
    case measure=>simp[intOf];omega
   ·rw [decide_eq_false zx]
    clear zx hzx;have⟨cY0,fY0,cY1,fY1,cY2,fY2⟩:=bY.all3
    go_wp2_with fail
    clear cY0 fY0 cY1 fY1 cY2 fY2
    with_reducible refine(ZY.out _).mono ?_
    rintro e wZ ⟨rfl,am⟩;replace ag:=ag.tr am;replace bR:=bR.below am;replace bS:=bS.below am;replace bX:=bX.below am;replace bY:=bY.below am;clear am
    by_cases zy:y=0
    ·rw[decide_eq_true zy]
     have hz:=Lib.hid (hzy zy);clear zy hzy
     go_wp2_with fail
     go_roundw
     case rel=>exact⟨k+1,by omega,by go_num,by rw[HB.out,hz.out];exact bS,bR,ag⟩
     case measure=>simp[intOf];omega
    ·rw[decide_eq_false zy]
     clear zy hzy
     go_upto_region 7 with fail
     replace ag:=ag.drew;replace bR:=bR.drew;replace bS:=bS.drew;replace bX:=bX.drew;replace bY:=bY.drew
     refine wp_held (S:=(fun w'=>w'.cell? ⟨gX,0,none⟩=some (.bool (decide (x.num<0)))∧w'.cell? ⟨gX,1,none⟩=some (.string (nb x.num.natAbs))∧w'.cell? ⟨gX,2,none⟩=some (.string (nb x.den))∧w'.cell? ⟨gY,0,none⟩=some (.bool (decide (y.num<0)))∧w'.cell? ⟨gY,1,none⟩=some (.string (nb y.num.natAbs))∧w'.cell? ⟨gY,2,none⟩=some (.string (nb y.den)))) (by kernel_rfl) (fun hP WD aq=>?_)
     simp only[←aq.out] at ag bR bS bX bY
     clear aq
     refine⟨?_,fun ap=>?_⟩
     ·try dsimp only
      with_reducible exact qz33 bX bY
     refine tkA 1 hP ap ?_
     refine tkA 2 hP ap ?_
     refine wpAnyH_ready (rs:= [0,3]) (by kernel_rfl) (by simp) ?_
     refine AllReadyH.cons (o:=?_) ?_ (fun KK hK=>?_) ?_;rotate_left;(conv=>lhs;whnf;arg 1;whnf)
     ·have cgR0:=bR.at 0 rfl
      have fgR0:=bR.fr 0 rfl;have cgR1:=bR.at 1 rfl;have fgR1:=bR.fr 1 rfl;have cgR2:=bR.at 2 rfl;have fgR2:=bR.fr 2 rfl;have⟨cS0,fS0,cS1,fS1,cS2,fS2⟩:=bS.all3;have⟨cX0,fX0,cX1,fX1,cX2,fX2⟩:=bX.all3;have⟨cY0,fY0,cY1,fY1,cY2,fY2⟩:=bY.all3
      go_simp
      clear cgR0 fgR0 cgR1 fgR1 cgR2 fgR2 cS0 fS0 cS1 fS1 cS2 fS2 cX0 fX0 cX1 fX1 cX2 fX2 cY0 fY0 cY1 fY1 cY2 fY2
      (first|refine hK.out _ _ ?_ fun ap=>?_|(go_wp2_with fail;refine hK.out _ _ ?_ fun ap=>?_))
      ·try dsimp only
       with_reducible exact qz33 bX bY
      clear hK KK
      try simp only[Act.put,sqA,sqB,sqC]
      refine stA 3 fun KK hK=>?_
      go_simp
      with_reducible refine(HM.out _).mono ?_
      rintro e wZ ⟨rfl,am⟩;replace ag:=ag.tr am;replace bR:=bR.below am;replace bS:=bS.below am;replace bX:=bX.below am;replace bY:=bY.below am;clear am
      (first|refine hK.out _ _ ?_ fun ap=>?_|(go_wp2_with fail;refine hK.out _ _ ?_ fun ap=>?_))
      ·try dsimp only
       with_reducible exact qz33 bX bY
      clear hK KK
      try simp only[Act.put,sqA,sqB,sqC]
      refine stA 4 fun KK hK=>?_
      go_simp
      with_reducible refine(HA.out _).mono ?_
      rintro e wZ ⟨rfl,am⟩;replace ag:=ag.tr am;replace bR:=bR.below am;replace bS:=bS.below am;replace bX:=bX.below am;replace bY:=bY.below am;clear am
      (first|refine hK.out _ _ ?_ fun ap=>?_|(go_wp2_with fail;refine hK.out _ _ ?_ fun ap=>?_))
      ·try dsimp only
       with_reducible exact qz33 bX bY
      clear hK KK
      try simp only[Act.put,sqA,sqB,sqC]
      refine stA 5 fun KK hK=>?_
      have⟨cS0,fS0,cS1,fS1,cS2,fS2⟩:=bS.all3;replace ag:=((ag.setCell (p:=⟨gS,0,none⟩) kgS (.bool (decide (p1.num<0)))).setCell (p:=⟨gS,1,none⟩) kgS (.string (nb p1.num.natAbs))).setCell (p:=⟨gS,2,none⟩) kgS (.string (nb p1.den));replace bR:=(((bR.other (p:=⟨gS,0,none⟩) (Ne.symm ngRgS) (.bool (decide (p1.num<0)))).other (p:=⟨gS,1,none⟩) (Ne.symm ngRgS) (.string (nb p1.num.natAbs))).other (p:=⟨gS,2,none⟩) (Ne.symm ngRgS) (.string (nb p1.den)))
      replace bX:=(((bX.other (p:=⟨gS,0,none⟩) ngSgX (.bool (decide (p1.num<0)))).other (p:=⟨gS,1,none⟩) ngSgX (.string (nb p1.num.natAbs))).other (p:=⟨gS,2,none⟩) ngSgX (.string (nb p1.den)));replace bY:=(((bY.other (p:=⟨gS,0,none⟩) ngSgY (.bool (decide (p1.num<0)))).other (p:=⟨gS,1,none⟩) ngSgY (.string (nb p1.num.natAbs))).other (p:=⟨gS,2,none⟩) ngSgY (.string (nb p1.den)))
      replace bS:=bS.put3 (.bool (decide (p1.num<0))) (.string (nb p1.num.natAbs)) (.string (nb p1.den))
      go_simp
      clear cS0 fS0 cS1 fS1 cS2 fS2;generalize ((wZ.setCell ⟨gS,0,none⟩ (.bool (decide (p1.num<0)))).setCell ⟨gS,1,none⟩ (.string (nb p1.num.natAbs))).setCell ⟨gS,2,none⟩ (.string (nb p1.den))=WS at*
      (first|refine hK.out _ _ ?_ fun ap=>?_|(go_wp2_with fail;refine hK.out _ _ ?_ fun ap=>?_))
      ·try dsimp only
       with_reducible exact qz33 bX bY
      clear hK KK
      try simp only[Act.put,sqA,sqB,sqC]
      refine doneA ?_
      go_wp2_with fail
      go_roundw
      case rel=>exact⟨k+1,by omega,by go_num,by rw[HB.out];exact bS,bR,ag⟩
      case measure=>simp[intOf];omega
     refine AllReadyH.cons (o:=?_) ?_ (fun KK hK=>?_) AllReadyH.nil;rotate_left;(conv=>lhs;whnf;arg 1;whnf)
     go_simp
     with_reducible refine(HM.out _).mono ?_
     rintro e wZ ⟨rfl,am⟩;replace ag:=ag.tr am;replace bR:=bR.below am;replace bS:=bS.below am;replace bX:=bX.below am;replace bY:=bY.below am;clear am
     (first|refine hK.out _ _ ?_ fun ap=>?_|(go_wp2_with fail;refine hK.out _ _ ?_ fun ap=>?_))
     ·try dsimp only
      with_reducible exact qz33 bX bY
     clear hK KK
     try simp only[Act.put,sqA,sqB,sqC]
     refine stA 0 fun KK hK=>?_
     have⟨cgR0,fgR0,cgR1,fgR1,cgR2,fgR2⟩:=bR.all3;have⟨cS0,fS0,cS1,fS1,cS2,fS2⟩:=bS.all3;have⟨cX0,fX0,cX1,fX1,cX2,fX2⟩:=bX.all3;have⟨cY0,fY0,cY1,fY1,cY2,fY2⟩:=bY.all3
     go_simp
     clear cgR0 fgR0 cgR1 fgR1 cgR2 fgR2 cS0 fS0 cS1 fS1 cS2 fS2 cX0 fX0 cX1 fX1 cX2 fX2 cY0 fY0 cY1 fY1 cY2 fY2
     (first|refine hK.out _ _ ?_ fun ap=>?_|(go_wp2_with fail;refine hK.out _ _ ?_ fun ap=>?_))
     ·try dsimp only
      with_reducible exact qz33 bX bY
     clear hK KK
     try simp only[Act.put,sqA,sqB,sqC]
     refine stA 4 fun KK hK=>?_
     go_simp
     with_reducible refine(HA.out _).mono ?_
     rintro e wZ ⟨rfl,am⟩;replace ag:=ag.tr am;replace bR:=bR.below am;replace bS:=bS.below am;replace bX:=bX.below am;replace bY:=bY.below am;clear am
     (first|refine hK.out _ _ ?_ fun ap=>?_|(go_wp2_with fail;refine hK.out _ _ ?_ fun ap=>?_))
     ·try dsimp only
      with_reducible exact qz33 bX bY
     clear hK KK
     try simp only[Act.put,sqA,sqB,sqC]
     refine stA 5 fun KK hK=>?_
     have⟨cS0,fS0,cS1,fS1,cS2,fS2⟩:=bS.all3;replace ag:=((ag.setCell (p:=⟨gS,0,none⟩) kgS (.bool (decide (p1.num<0)))).setCell (p:=⟨gS,1,none⟩) kgS (.string (nb p1.num.natAbs))).setCell (p:=⟨gS,2,none⟩) kgS (.string (nb p1.den));replace bR:=(((bR.other (p:=⟨gS,0,none⟩) (Ne.symm ngRgS) (.bool (decide (p1.num<0)))).other (p:=⟨gS,1,none⟩) (Ne.symm ngRgS) (.string (nb p1.num.natAbs))).other (p:=⟨gS,2,none⟩) (Ne.symm ngRgS) (.string (nb p1.den)))
     replace bX:=(((bX.other (p:=⟨gS,0,none⟩) ngSgX (.bool (decide (p1.num<0)))).other (p:=⟨gS,1,none⟩) ngSgX (.string (nb p1.num.natAbs))).other (p:=⟨gS,2,none⟩) ngSgX (.string (nb p1.den)));replace bY:=(((bY.other (p:=⟨gS,0,none⟩) ngSgY (.bool (decide (p1.num<0)))).other (p:=⟨gS,1,none⟩) ngSgY (.string (nb p1.num.natAbs))).other (p:=⟨gS,2,none⟩) ngSgY (.string (nb p1.den)))
     replace bS:=bS.put3 (.bool (decide (p1.num<0))) (.string (nb p1.num.natAbs)) (.string (nb p1.den))
     go_simp
     clear cS0 fS0 cS1 fS1 cS2 fS2;generalize ((wZ.setCell ⟨gS,0,none⟩ (.bool (decide (p1.num<0)))).setCell ⟨gS,1,none⟩ (.string (nb p1.num.natAbs))).setCell ⟨gS,2,none⟩ (.string (nb p1.den))=WS at*
     (first|refine hK.out _ _ ?_ fun ap=>?_|(go_wp2_with fail;refine hK.out _ _ ?_ fun ap=>?_))
     ·try dsimp only
      with_reducible exact qz33 bX bY
     clear hK KK
     try simp only[Act.put,sqA,sqB,sqC]
     refine doneA ?_
     go_wp2_with fail
     go_roundw
     case rel=>exact⟨k+1,by omega,by go_num,by rw[HB.out];exact bS,bR,ag⟩
     case measure=>simp[intOf];omega
  ·obtain rfl:k=n:=by omega
   have⟨cS0,fS0,cS1,fS1,cS2,fS2⟩:=bS.all3;have⟨cgR0,fgR0,cgR1,fgR1,cgR2,fgR2⟩:=bR.all3
   go_wp2_with fail
   refine bodyPost_ret (v:=.agg #[.bool (decide ((P k).num<0)),.string (nb (P k).num.natAbs),.string (nb (P k).den)]) (by simp[results,Tryz.results43,go_sem,cgR0,cgR1,cgR2]) rfl ⟨rfl,(((ag.setCell kgR _).setCell kgR _).setCell kgR _)⟩
end Go.Proofs.YtinmmkcjjlconaaGreat
namespace Go.Proofs.YtinmmkcjjlconaaGreat
open Go.RowKit W
open Pl (nb)
open Lp
def isBas(m:Nat)(T:Tab)(j:Nat):Bool:=(List.range m).any (fun i=>T.bas i==j)
theorem isBas_iff {m:Nat} {T:Tab} {j:Nat}:isBas m T j=true↔Bas m T j:=by
 simp only[isBas,List.any_eq_true,List.mem_range,beq_iff_eq];rfl
theorem isBas_congr {m:Nat} {T U:Tab} (h: ∀i,i<m→T.bas i=U.bas i) (j:Nat):isBas m T j=isBas m U j:=by
 rw[Bool.eq_iff_iff,isBas_iff,isBas_iff]
 constructor
 ·rintro ⟨i,hi,e⟩;exact⟨i,hi,by rw[←h i hi];exact e⟩
 ·rintro ⟨i,hi,e⟩;exact⟨i,hi,by rw[h i hi];exact e⟩
structure TD where
  w0:World
  bt:Nat
  m:Nat
  n:Nat
  gb:Nat
  gk:Nat
  gr:Nat
  gi:Nat
  gv:Nat
  gq:Nat→Nat
  pa:Value
  pb:Value
  pc:Value
  vb:Value
  vk:Value
  vr:Value
  vi:Value
  vv:Value
  A:Nat→Nat→Rat
  B:Nat→Rat
  C:Nat→Rat
structure TDo (D:TD):Prop where
  hm:D.m≤100
  hn:D.n≤5000
  pA:MatR D.w0 D.pa D.m D.n D.A
  pB:SlR D.w0 D.pb D.m D.B
  pC:SlR D.w0 D.pc D.n D.C
  sb: ∃a c,D.vb= .slice a D.m c∧(0<D.m→a=some ⟨D.gb,0,none⟩)
  sk: ∃c,D.vk= .slice (some ⟨D.gk,0,none⟩) (D.n+D.m+1) c
  sr: ∃c,D.vr= .slice (some ⟨D.gr,0,none⟩) (D.n+D.m+1) c
  si: ∃a c,D.vi= .slice a D.m c∧(0<D.m→a=some ⟨D.gi,0,none⟩)
  sv: ∃a c,D.vv= .slice a D.m c∧(0<D.m→a=some ⟨D.gv,0,none⟩)
  lt:D.w0.heap.size≤D.bt
  lk:D.w0.heap.size≤D.gk
  lr:D.w0.heap.size≤D.gr
  lb:0<D.m→D.w0.heap.size≤D.gb
  li:0<D.m→D.w0.heap.size≤D.gi
  lv:0<D.m→D.w0.heap.size≤D.gv
  lq: ∀i,i<D.m→D.w0.heap.size≤D.gq i
  n1:D.bt≠D.gk∧D.bt≠D.gr∧D.gk≠D.gr
  nb:0<D.m→D.gb≠D.bt∧D.gb≠D.gk∧D.gb≠D.gr∧D.gb≠D.gi∧D.gb≠D.gv
  ni:0<D.m→D.gi≠D.bt∧D.gi≠D.gk∧D.gi≠D.gr∧D.gi≠D.gv
  nv:0<D.m→D.gv≠D.bt∧D.gv≠D.gk∧D.gv≠D.gr
  nq: ∀i,i<D.m→D.gq i≠D.bt∧D.gq i≠D.gk∧D.gq i≠D.gr∧D.gq i≠D.gi∧D.gq i≠D.gv∧D.gq i≠D.gb
  nn: ∀i j,i<D.m→j<D.m→i≠j→D.gq i≠D.gq j
def TD.cells(D:TD):List Value:= [D.pa,D.pb,D.pc,.int .i64 (D.m:Int),.int .i64 (D.n:Int),D.vb,D.vk,D.vr,D.vi,D.vv,.bool (decide ((0:Rat).num<0)),.string (nb (0:Rat).num.natAbs),.string (nb (0:Rat).den),.bool (decide ((1:Rat).num<0)),.string (nb (1:Rat).num.natAbs),.string (nb (1:Rat).den)]
def TD.Mut(D:TD)(k:Nat):Prop:=k=D.gk∨(0<D.m∧(k=D.gb∨k=D.gv))∨∃i,i<D.m∧k=D.gq i
structure TM (D:TD) (w:World) (T:Tab) (bar:Nat→Bool):Prop where
  old:Below D.w0.heap.size D.w0 w
  fix:Rx w D.bt D.cells
  basis:0<D.m→RowC w D.gb D.m (fun i=>.int .i64 (T.bas i:Int))
  basic:RowC w D.gk (D.n+D.m+1) (fun j=>.bool (isBas D.m T j))
  barred:RowC w D.gr (D.n+D.m+1) (fun j=>.bool (bar j))
  inv:0<D.m→RowC w D.gi D.m (fun i=>.slice (some ⟨D.gq i,0,none⟩) D.m D.m)
  rows: ∀i,i<D.m→Row3 w (D.gq i) D.m (fun k=>q3 (T.a i (D.n+k)))
  vals:0<D.m→Row3 w D.gv D.m (fun i=>q3 (T.b i))
section
variable {D:TD} {w w' W:World} {T U:Tab} {bar:Nat→Bool} {M:Nat→Prop}
theorem TDo.ge (o:TDo D) {k:Nat} (h:D.Mut k):D.w0.heap.size≤k:=by
 rcases h with rfl|⟨h0,rfl|rfl⟩|⟨i,hi,rfl⟩
 ·exact o.lk
 ·exact o.lb h0
 ·exact o.lv h0
 ·exact o.lq i hi
theorem TM.below (h:TM D w T bar) (hb:Below w.heap.size w w'):TM D w' T bar:=
 ⟨h.old.trans (hb.mono h.old.size),h.fix.below hb,fun h0=>(h.basis h0).below hb,h.basic.below hb,h.barred.below hb,fun h0=>(h.inv h0).below hb,fun i hi=>(h.rows i hi).below hb,fun h0=>(h.vals h0).below hb⟩
theorem TM.congr (h:TM D w T bar) (ha: ∀i k,i<D.m→k<D.m→T.a i (D.n+k)=U.a i (D.n+k)) (hb: ∀i,i<D.m→T.b i=U.b i) (hs: ∀i,i<D.m→T.bas i=U.bas i):TM D w U bar:=
 ⟨h.old,h.fix,fun h0=>(h.basis h0).congr (fun i hi=>by rw[hs i hi]),h.basic.congr (fun j _=>by rw[isBas_congr hs]),h.barred,h.inv,fun i hi=>(h.rows i hi).congr (fun k hk=>by rw[ha i k hi hk]),fun h0=>(h.vals h0).congr (fun i hi=>by rw[hb i hi])⟩
theorem TM.put_a (h:TM D w T bar) (o:TDo D) {i k:Nat} (hi:i<D.m) (hk:k<D.m) (q:Rat):
  TM D (sto3 w (D.gq i) k (q3 q)) {T with a:=fun i' x=>if i'=i∧x=D.n+k then q else T.a i' x} bar:=by
 have ho:Off (fun b=>b=D.gq i) w (sto3 w (D.gq i) k (q3 q)):=off_sto3 (M:=fun b=>b=D.gq i) rfl k _;obtain⟨n1,n2,n3,n4,n5,n6⟩:=o.nq i hi
 refine⟨h.old.trans (ho.below (B:=D.w0.heap.size) (fun b hb e=>by subst e;have:=o.lq i hi;omega) h.old.size),h.fix.off ho (Ne.symm n1),fun h0=>(h.basis h0).off ho (Ne.symm n6),?_,h.barred.off ho (Ne.symm n3),fun h0=>(h.inv h0).off ho (Ne.symm n4),fun j hj=>?_,fun h0=>(h.vals h0).off ho (Ne.symm n5)⟩
 ·exact h.basic.off ho (Ne.symm n2)
 ·by_cases e:j=i
  ·subst e
   refine((h.rows j hj).put hk (q3 q)).congr (fun x hx=>?_)
   by_cases ex:x=k
   ·subst ex;rw[upd_same];simp
   ·rw[upd_ne ex]
    show _=q3 (if j=j∧D.n+x=D.n+k then q else _)
    rw[if_neg (by omega)]
  ·refine((h.rows j hj).off ho (fun e'=>o.nn j i hj hi e e')).congr (fun x hx=>?_)
   show _=q3 (if j=i∧D.n+x=D.n+k then q else _)
   rw[if_neg (fun e'=>e e'.1)]
theorem TM.put_b (h:TM D w T bar) (o:TDo D) {i:Nat} (hi:i<D.m) (q:Rat):
  TM D (sto3 w D.gv i (q3 q)) {T with b:=fun i'=>if i'=i then q else T.b i'} bar:=by
 have h0:0<D.m:=by omega
 have ho:Off (fun b=>b=D.gv) w (sto3 w D.gv i (q3 q)):=off_sto3 (M:=fun b=>b=D.gv) rfl i _;obtain⟨n1,n2,n3⟩:=o.nv h0
 refine⟨h.old.trans (ho.below (B:=D.w0.heap.size) (fun b hb e=>by subst e;have:=o.lv h0;omega) h.old.size),h.fix.off ho (Ne.symm n1),fun h0=>(h.basis h0).off ho (o.nb h0).2.2.2.2,h.basic.off ho (Ne.symm n2),h.barred.off ho (Ne.symm n3),fun h0=>(h.inv h0).off ho (o.ni h0).2.2.2,fun j hj=>(h.rows j hj).off ho (o.nq j hj).2.2.2.2.1,fun _=>?_⟩
 refine((h.vals h0).put hi (q3 q)).congr (fun x hx=>?_)
 by_cases ex:x=i
 ·subst ex;rw[upd_same];simp
 ·rw[upd_ne ex]
  show _=q3 (if x=i then q else _)
  rw[if_neg ex]
theorem TM.put_bas (h:TM D w T bar) (o:TDo D) {r j:Nat} (hr:r<D.m) (hj:j<D.n+D.m+1) (hb:T.bas r<D.n+D.m+1) (hin: ∀i k,i<D.m→k<D.m→T.bas i=T.bas k→i=k) (hn: ¬Bas D.m T j):
  TM D (((w.setCell ⟨D.gk,T.bas r,none⟩ (.bool false)).setCell ⟨D.gk,j,none⟩ (.bool true)).setCell ⟨D.gb,r,none⟩ (.int .i64 (j:Int))) {T with bas:=fun i=>if i=r then j else T.bas i} bar:=by
 have h0:0<D.m:=by omega
 obtain⟨n1,n2,n3,n4,n5⟩:=o.nb h0
 have hoM:Off (fun b=>b=D.gk∨b=D.gb) w (((w.setCell ⟨D.gk,T.bas r,none⟩ (.bool false)).setCell ⟨D.gk,j,none⟩ (.bool true)).setCell ⟨D.gb,r,none⟩ (.int .i64 (j:Int))):=
  (((Off.refl _ w).set (p:=⟨D.gk,T.bas r,none⟩) (.inl rfl) _).set (p:=⟨D.gk,j,none⟩) (.inl rfl) _).set (p:=⟨D.gb,r,none⟩) (.inr rfl) _
 refine⟨h.old.trans (hoM.below (B:=D.w0.heap.size) (fun b hb e=>by have:=o.lk;have:=o.lb h0;rcases e with rfl|rfl<;>omega) h.old.size),h.fix.off hoM (fun e=>e.elim o.n1.1 (fun e=>n1 e.symm)),fun _=>?_,?_,h.barred.off hoM (fun e=>e.elim (fun e=>o.n1.2.2 e.symm) (fun e=>n3 e.symm)),fun h0=>(h.inv h0).off hoM (fun e=>e.elim (o.ni h0).2.1 (fun e=>n4 e.symm)),fun i hi=>(h.rows i hi).off hoM (fun e=>e.elim (o.nq i hi).2.1 (o.nq i hi).2.2.2.2.2),fun h0=>(h.vals h0).off hoM (fun e=>e.elim (o.nv h0).2.1 (fun e=>n5 e.symm))⟩
 ·refine(RowC.put (((h.basis h0).off (M:=fun b=>b=D.gk) (((Off.refl (fun b=>b=D.gk) w).set (p:=⟨D.gk,T.bas r,none⟩) rfl (.bool false)).set (p:=⟨D.gk,j,none⟩) rfl (.bool true)) n2)) hr (.int .i64 (j:Int))).congr (fun i hi=>?_)
  by_cases e:i=r
  ·subst e;rw[upd_same];simp
  ·rw[upd_ne e];simp[e]
 ·have hk2:RowC ((w.setCell ⟨D.gk,T.bas r,none⟩ (.bool false)).setCell ⟨D.gk,j,none⟩ (.bool true)) D.gk (D.n+D.m+1) (upd (upd (fun x=>.bool (isBas D.m T x)) (T.bas r) (.bool false)) j (.bool true)):=((h.basic.put hb (.bool false)).put hj (.bool true))
  refine(hk2.off (M:=fun b=>b=D.gb) ((Off.refl (fun b=>b=D.gb) _).set (p:=⟨D.gb,r,none⟩) rfl _) (Ne.symm n2)).congr (fun x hx=>?_)
  have key:isBas D.m {T with bas:=fun i=>if i=r then j else T.bas i} x=if x=j then true else if x=T.bas r then false else isBas D.m T x:=by
   by_cases e1:x=j
   ·subst e1
    rw[if_pos rfl,isBas_iff]
    exact⟨r,hr,if_pos rfl⟩
   ·rw[if_neg e1]
    by_cases e2:x=T.bas r
    ·rw[if_pos e2,←Bool.not_eq_true,isBas_iff]
     rintro ⟨i,hi,e⟩;replace e:(if i=r then j else T.bas i)=x:=e
     by_cases ei:i=r
     ·rw[if_pos ei] at e;exact e1 e.symm
     ·rw[if_neg ei] at e;exact ei (hin i r hi hr (e.trans e2))
    ·rw[if_neg e2,Bool.eq_iff_iff,isBas_iff,isBas_iff]
     constructor
     ·rintro ⟨i,hi,e⟩
      replace e:(if i=r then j else T.bas i)=x:=e
      by_cases ei:i=r
      ·rw[if_pos ei] at e;exact absurd e.symm e1
      ·rw[if_neg ei] at e;exact⟨i,hi,e⟩
     ·rintro ⟨i,hi,e⟩
      refine⟨i,hi,?_⟩
      show(if i=r then j else T.bas i)=x
      rw[if_neg (fun ei=>e2 (by rw[←e,ei]))];exact e
  rw[key]
  by_cases e1:x=j
  ·subst e1;rw[upd_same,if_pos rfl]
  ·rw[upd_ne e1,if_neg e1]
   by_cases e2:x=T.bas r
   ·subst e2;rw[upd_same,if_pos rfl]
   ·rw[upd_ne e2,if_neg e2]
end
end Go.Proofs.YtinmmkcjjlconaaGreat
namespace Go.Proofs.YtinmmkcjjlconaaGreat
open Go.RowKit W
open Pl (nb bv bv_nb nb_size_zero)
open Lp (S S_succ)
structure TF (D:TD) (w:World):Prop where
  old:Below D.w0.heap.size D.w0 w
  fix:Rx w D.bt D.cells
section
variable {D:TD} {w w':World} {T:Lp.Tab} {bar:Nat→Bool} {M:Nat→Prop}
theorem TM.tf(h:TM D w T bar):TF D w:=⟨h.old,h.fix⟩
theorem TF.below(h:TF D w)(hb:Below w.heap.size w w'):TF D w':=⟨h.old.trans (hb.mono h.old.size),h.fix.below hb⟩
theorem TF.off (h:TF D w) (o:TDo D) (ho:Off D.Mut w w'):TF D w':=by
 refine⟨h.old.trans (ho.below (fun k hk hm=>by have:=o.ge hm;omega) h.old.size),h.fix.off ho ?_⟩
 rintro (e|⟨h0,e|e⟩|⟨i,hi,e⟩)
 ·exact o.n1.1 e
 ·exact(o.nb h0).1 e.symm
 ·exact(o.nv h0).1 e.symm
 ·exact(o.nq i hi).1 e.symm
theorem TF.c(h:TF D w){W:World}(hb:Below w.heap.size w W)(i:Nat){v:Value}(hv:D.cells[i]? =some v):W.cell? ⟨D.bt,i,none⟩=some v:=(h.below hb).fix.at i hv
end
theorem helper_any (D:TD) (o:TDo D) (w:World) (h:TF D w):Calls Tryz.prog 106 #[.pointer (some ⟨D.bt,0,none⟩)] w fun e w'=>e= .returned (.int .i64 ((D.n+D.m:Nat):Int))∧Below w.heap.size w w':=by
 have hm:=o.hm;have hn:=o.hn;have HC:Hid (∀W,Below w.heap.size w W→W.cell? ⟨D.bt,3,none⟩=some (.int .i64 (D.m:Int))∧W.cell? ⟨D.bt,4,none⟩=some (.int .i64 (D.n:Int))):=Lib.hid (fun W hb=>⟨h.c hb 3 rfl,h.c hb 4 rfl⟩);clear h o
 have hw:IntKind.i64.wrap ((D.n:Int)+(D.m:Int))=((D.n+D.m:Nat):Int):=by rw[IntKind.wrap_i64];omega
 generalize D.bt=bt at*;generalize D.m=m at*;generalize D.n=n at*
 go_enter Tryz.func106,Tryz.ntmps106
 have ag:=(Below.refl w.heap.size w)
 go_upto_region 1 with fail
 replace ag:=ag.drew
 refine wp_schH (S:=(fun w'=>w'.cell? ⟨bt,3,none⟩=some (.int .i64 (m:Int))∧w'.cell? ⟨bt,4,none⟩=some (.int .i64 (n:Int)))) (ps 0 10 .e) [0] fun A WD hA aq=>?_
 simp only[←aq.out] at ag
 clear aq
 refine⟨?_,fun ap=>?_⟩
 ·try dsimp only
  with_reducible exact⟨(HC.out _ ag).1,(HC.out _ ag).2⟩
 repeat(refine isP ?_;refine tkO ?_)
 refine enO hA ?_
 clear hA
 go_wp2_with fail
 go_ret
 exact⟨rfl,ag⟩
theorem gain_any (D:TD) (o:TDo D) (j:Nat) (w:World) (h:TF D w):Calls Tryz.prog 42 #[.pointer (some ⟨D.bt,0,none⟩),.int .i64 (j:Int)] w fun e w'=>e= .returned (rv (Lp.cst D.n D.C j))∧Below w.heap.size w w':=by
 have hn:=o.hn
 by_cases hj:j<D.n
 ·rw[show Lp.cst D.n D.C j=D.C j from if_pos hj]
  obtain⟨a,cap,hpc,hC⟩:=o.pC
  obtain⟨b,rfl,hr⟩:=hC (by omega)
  have HD:Hid (∀W,Below w.heap.size w W→W.cell? ⟨b,j*3,none⟩=some (.bool (decide ((D.C j).num<0)))∧W.cell? ⟨b,j*3+1,none⟩=some (.string (nb (D.C j).num.natAbs))∧W.cell? ⟨b,j*3+1+1,none⟩=some (.string (nb (D.C j).den))):=Lib.hid (fun W hb=>(hr.below (h.below hb).old).2 j hj);have HC:Hid (∀W,Below w.heap.size w W→W.cell? ⟨D.bt,2,none⟩=some (.slice (some ⟨b,0,none⟩) D.n cap)∧W.cell? ⟨D.bt,4,none⟩=some (.int .i64 (D.n:Int))):=Lib.hid (fun W hb=>⟨(hpc▸h.c hb 2 rfl),h.c hb 4 rfl⟩)
  clear hr hC hpc h o
  have hk0:(0:Int)≤(j:Int):=by omega
  have hk1:(j:Int)<(D.n:Int):=by omega
  generalize D.C j=x at*;generalize D.bt=bt at*;generalize D.n=n at*;unfold rv
  go_enter Tryz.func42,Tryz.ntmps42
  have⟨bR,ag⟩:=opn1 w [.bool false,.string ⟨#[]⟩,.string ⟨#[]⟩] 33
  go_upto_region 1 with fail
  generalize w.alloc (.cells #[.bool false,.string ⟨#[]⟩,.string ⟨#[]⟩] 33)=W0 at*;obtain⟨gR,hgR⟩: ∃g,g=w.heap.size:=⟨_,rfl⟩;rw[←hgR] at bR
  simp only[←hgR]
  have kgR:w.heap.size≤gR:=by omega
  clear hgR;obtain⟨s2,s4⟩:=HC.out _ ag;obtain⟨c0,c1,c2⟩:=HD.out _ ag;have⟨cgR0,fgR0,cgR1,fgR1,cgR2,fgR2⟩:=bR.all3
  go_wp2_with fail
  refine bodyPost_ret (v:=.agg #[.bool (decide (x.num<0)),.string (nb x.num.natAbs),.string (nb x.den)]) (by simp[results,Tryz.results42,go_sem,cgR0,cgR1,cgR2]) rfl ⟨rfl,(((ag.setCell kgR _).setCell kgR _).setCell kgR _)⟩
 ·rw[show Lp.cst D.n D.C j=0 from if_neg hj]
  have HC:Hid (∀W,Below w.heap.size w W→W.cell? ⟨D.bt,4,none⟩=some (.int .i64 (D.n:Int))∧W.cell? ⟨D.bt,10,none⟩=some (.bool (decide ((0:Rat).num<0)))∧W.cell? ⟨D.bt,11,none⟩=some (.string (nb (0:Rat).num.natAbs))∧W.cell? ⟨D.bt,12,none⟩=some (.string (nb (0:Rat).den))):=Lib.hid (fun W hb=>⟨h.c hb 4 rfl,h.c hb 10 rfl,h.c hb 11 rfl,h.c hb 12 rfl⟩);clear h o
  have hk0:(0:Int)≤(j:Int):=by omega
  have hk1: ¬(j:Int)<(D.n:Int):=by omega
  have hk2:decide ((j:Int)<(D.n:Int))=false:=decide_eq_false hk1;generalize D.bt=bt at*;generalize D.n=n at*;unfold rv
  go_enter Tryz.func42,Tryz.ntmps42
  have⟨bR,ag⟩:=opn1 w [.bool false,.string ⟨#[]⟩,.string ⟨#[]⟩] 33
  go_upto_region 1 with fail
  generalize w.alloc (.cells #[.bool false,.string ⟨#[]⟩,.string ⟨#[]⟩] 33)=W0 at*;obtain⟨gR,hgR⟩: ∃g,g=w.heap.size:=⟨_,rfl⟩;rw[←hgR] at bR
  simp only[←hgR]
  have kgR:w.heap.size≤gR:=by omega
  clear hgR;obtain⟨s4,c0,c1,c2⟩:=HC.out _ ag;have⟨cgR0,fgR0,cgR1,fgR1,cgR2,fgR2⟩:=bR.all3
  go_wp2_with fail
  refine bodyPost_ret (v:=.agg #[.bool (decide ((0:Rat).num<0)),.string (nb (0:Rat).num.natAbs),.string (nb (0:Rat).den)]) (by simp[results,Tryz.results42,go_sem,cgR0,cgR1,cgR2]) rfl ⟨rfl,(((ag.setCell kgR _).setCell kgR _).setCell kgR _)⟩
theorem gain_fn(D:TD)(o:TDo D)(N:Nat)(w:World)(h:TF D w):Fn1 D.Mut 42 #[.pointer (some ⟨D.bt,0,none⟩)] #[] N (Lp.cst D.n D.C) w:=fun W k _ ho=>gain_any D o k W (h.off o ho)
theorem gain_enters:Enters 42:=enters_of Tryz.func42 (by kernel_rfl) rfl
theorem Sz_one:Sz 1 8:=by
 have:=Sz_int (n:=1) (by decide) (by decide)
 rwa [show((1:Int):Rat)=1 from rfl] at this
theorem element_any (D:TD) (o:TDo D) (i j:Nat) (hi:i<D.m) (w:World) (h:TF D w):Calls Tryz.prog 122 #[.pointer (some ⟨D.bt,0,none⟩),.int .i64 (i:Int),.int .i64 (j:Int)] w fun e w'=>e= .returned (rv (Lp.mat D.m D.n D.A i j))∧Below w.heap.size w w':=by
 have hn:=o.hn;have hm:=o.hm
 have hj0:(0:Int)≤(j:Int):=by omega
 have hi0:(0:Int)≤(i:Int):=by omega
 have hi1:(i:Int)<(D.m:Int):=by omega
 by_cases hj:j<D.n
 ·rw[show Lp.mat D.m D.n D.A i j=D.A i j from if_pos hj]
  obtain⟨a,cap,hpa,hA⟩:=o.pA
  obtain⟨b,rfl,hb,hr⟩:=hA (by omega)
  obtain⟨vi,hvi,a2,cap2,rfl,h2⟩:=hr i hi
  obtain⟨b2,rfl,hr2⟩:=h2 (by omega)
  have HD:Hid (∀W,Below w.heap.size w W→W.cell? ⟨b,i,none⟩=some (.slice (some ⟨b2,0,none⟩) D.n cap2)∧W.cell? ⟨b2,j*3,none⟩=some (.bool (decide ((D.A i j).num<0)))∧W.cell? ⟨b2,j*3+1,none⟩=some (.string (nb (D.A i j).num.natAbs))∧W.cell? ⟨b2,j*3+1+1,none⟩=some (.string (nb (D.A i j).den))):=Lib.hid (fun W hb'=>⟨((h.below hb').old.cell (p:=⟨b,i,none⟩) hb).trans hvi,(hr2.below (h.below hb').old).2 j hj⟩)
  have HC:Hid (∀W,Below w.heap.size w W→W.cell? ⟨D.bt,0,none⟩=some (.slice (some ⟨b,0,none⟩) D.m cap)∧W.cell? ⟨D.bt,4,none⟩=some (.int .i64 (D.n:Int))):=Lib.hid (fun W hb=>⟨(hpa▸h.c hb 0 rfl),h.c hb 4 rfl⟩);clear hr hA h2 hvi hr2 hpa hb h o
  have hk1:(j:Int)<(D.n:Int):=by omega
  generalize D.A i j=x at*;generalize D.bt=bt at*;generalize D.n=n at*;generalize D.m=m at*;unfold rv
  go_enter Tryz.func122,Tryz.ntmps122
  have⟨bR,ag⟩:=opn1 w [.bool false,.string ⟨#[]⟩,.string ⟨#[]⟩] 33
  go_upto_region 1 with fail
  generalize w.alloc (.cells #[.bool false,.string ⟨#[]⟩,.string ⟨#[]⟩] 33)=W0 at*;obtain⟨gR,hgR⟩: ∃g,g=w.heap.size:=⟨_,rfl⟩;rw[←hgR] at bR
  simp only[←hgR]
  have kgR:w.heap.size≤gR:=by omega
  clear hgR;obtain⟨s0,s4⟩:=HC.out _ ag;obtain⟨ca,c0,c1,c2⟩:=HD.out _ ag;have⟨cgR0,fgR0,cgR1,fgR1,cgR2,fgR2⟩:=bR.all3
  go_wp2_with fail
  refine bodyPost_ret (v:=.agg #[.bool (decide (x.num<0)),.string (nb x.num.natAbs),.string (nb x.den)]) (by simp[results,Tryz.results122,go_sem,cgR0,cgR1,cgR2]) rfl ⟨rfl,(((ag.setCell kgR _).setCell kgR _).setCell kgR _)⟩
 ·have hk1: ¬(j:Int)<(D.n:Int):=by omega
  have hk2:decide ((j:Int)<(D.n:Int))=false:=decide_eq_false hk1;have HH:=Lib.hid (fun W hb=>helper_any D o W (h.below hb))
  by_cases hH:j=D.n+D.m
  ·rw[show Lp.mat D.m D.n D.A i j= -1 from(if_neg hj).trans (if_pos hH)]
   have ho:((D.n+D.m:Nat):Int)=(j:Int):=by omega
   rw[ho] at HH
   have HN:=Lib.hid (fun W=>aneg_any 1 W (Sz_one.mono (by decide)))
   have HC:Hid (∀W,Below w.heap.size w W→W.cell? ⟨D.bt,4,none⟩=some (.int .i64 (D.n:Int))∧W.cell? ⟨D.bt,13,none⟩=some (.bool (decide ((1:Rat).num<0)))∧W.cell? ⟨D.bt,14,none⟩=some (.string (nb (1:Rat).num.natAbs))∧W.cell? ⟨D.bt,15,none⟩=some (.string (nb (1:Rat).den))):=Lib.hid (fun W hb=>⟨h.c hb 4 rfl,h.c hb 13 rfl,h.c hb 14 rfl,h.c hb 15 rfl⟩);clear h o
   generalize (1:Rat)=u at*
   simp only[rv] at HN
   generalize D.bt=bt at*;generalize D.n=n at*;generalize D.m=m at*;unfold rv
   go_enter Tryz.func122,Tryz.ntmps122
   have⟨bR,ag⟩:=opn1 w [.bool false,.string ⟨#[]⟩,.string ⟨#[]⟩] 33
   go_upto_region 1 with fail
   generalize w.alloc (.cells #[.bool false,.string ⟨#[]⟩,.string ⟨#[]⟩] 33)=W0 at*;obtain⟨gR,hgR⟩: ∃g,g=w.heap.size:=⟨_,rfl⟩;rw[←hgR] at bR
   simp only[←hgR]
   have kgR:w.heap.size≤gR:=by omega
   clear hgR;have s4:=(HC.out _ ag).1
   go_wp2_with fail
   clear s4
   with_reducible refine(HH.out _ ag).mono ?_
   rintro e wZ ⟨rfl,am⟩;replace ag:=ag.tr am;replace bR:=bR.below am;clear am;obtain⟨s4,c0,c1,c2⟩:=HC.out _ ag
   go_wp2_with fail
   clear s4 c0 c1 c2
   with_reducible refine(HN.out _).mono ?_
   rintro e wZ ⟨rfl,am⟩;replace ag:=ag.tr am;replace bR:=bR.below am;clear am;have⟨cgR0,fgR0,cgR1,fgR1,cgR2,fgR2⟩:=bR.all3
   go_wp2_with fail
   refine bodyPost_ret (v:=.agg #[.bool (decide ((-u).num<0)),.string (nb (-u).num.natAbs),.string (nb (-u).den)]) (by simp[results,Tryz.results122,go_sem,cgR0,cgR1,cgR2]) rfl ⟨rfl,(((ag.setCell kgR _).setCell kgR _).setCell kgR _)⟩
  ·have hH1: ¬(j:Int)=((D.n+D.m:Nat):Int):=by omega
   have hH2:((j:Int)==((D.n+D.m:Nat):Int))=false:=by simpa using hH1
   have hw:IntKind.i64.wrap ((D.n:Int)+(i:Int))=(D.n:Int)+(i:Int):=by rw[IntKind.wrap_i64];omega
   by_cases hs:j=D.n+i
   ·rw[show Lp.mat D.m D.n D.A i j=1 from(if_neg hj).trans ((if_neg hH).trans (if_pos hs))]
    have hs1:(D.n:Int)+(i:Int)=(j:Int):=by omega
    rw[hs1] at hw;have HC:Hid (∀W,Below w.heap.size w W→W.cell? ⟨D.bt,4,none⟩=some (.int .i64 (D.n:Int))∧W.cell? ⟨D.bt,13,none⟩=some (.bool (decide ((1:Rat).num<0)))∧W.cell? ⟨D.bt,14,none⟩=some (.string (nb (1:Rat).num.natAbs))∧W.cell? ⟨D.bt,15,none⟩=some (.string (nb (1:Rat).den))):=Lib.hid (fun W hb=>⟨h.c hb 4 rfl,h.c hb 13 rfl,h.c hb 14 rfl,h.c hb 15 rfl⟩)
    clear h o hH hs hj;generalize (1:Rat)=u at*;generalize ((D.n+D.m:Nat):Int)=H at*;generalize D.bt=bt at*;generalize D.n=n at*;generalize D.m=m at*;unfold rv
    go_enter Tryz.func122,Tryz.ntmps122
    have⟨bR,ag⟩:=opn1 w [.bool false,.string ⟨#[]⟩,.string ⟨#[]⟩] 33
    go_upto_region 1 with fail
    generalize w.alloc (.cells #[.bool false,.string ⟨#[]⟩,.string ⟨#[]⟩] 33)=W0 at*;obtain⟨gR,hgR⟩: ∃g,g=w.heap.size:=⟨_,rfl⟩;rw[←hgR] at bR
    simp only[←hgR]
    have kgR:w.heap.size≤gR:=by omega
    clear hgR;have s4:=(HC.out _ ag).1
    go_wp2_with fail
    clear s4
    with_reducible refine(HH.out _ ag).mono ?_
    rintro e wZ ⟨rfl,am⟩;replace ag:=ag.tr am;replace bR:=bR.below am;clear am;obtain⟨s4,c0,c1,c2⟩:=HC.out _ ag;have⟨cgR0,fgR0,cgR1,fgR1,cgR2,fgR2⟩:=bR.all3
    go_wp2_with fail
    refine bodyPost_ret (v:=.agg #[.bool (decide (u.num<0)),.string (nb u.num.natAbs),.string (nb u.den)]) (by simp[results,Tryz.results122,go_sem,cgR0,cgR1,cgR2]) rfl ⟨rfl,(((ag.setCell kgR _).setCell kgR _).setCell kgR _)⟩
   ·rw[show Lp.mat D.m D.n D.A i j=0 from(if_neg hj).trans ((if_neg hH).trans (if_neg hs))]
    have hs1: ¬(j:Int)=(D.n:Int)+(i:Int):=by omega
    have hs2:((j:Int)==(D.n:Int)+(i:Int))=false:=by simpa using hs1
    have HC:Hid (∀W,Below w.heap.size w W→W.cell? ⟨D.bt,4,none⟩=some (.int .i64 (D.n:Int))∧W.cell? ⟨D.bt,10,none⟩=some (.bool (decide ((0:Rat).num<0)))∧W.cell? ⟨D.bt,11,none⟩=some (.string (nb (0:Rat).num.natAbs))∧W.cell? ⟨D.bt,12,none⟩=some (.string (nb (0:Rat).den))):=Lib.hid (fun W hb=>⟨h.c hb 4 rfl,h.c hb 10 rfl,h.c hb 11 rfl,h.c hb 12 rfl⟩);clear h o hH hs hj
    generalize (0:Rat)=u at*;generalize ((D.n+D.m:Nat):Int)=H at*;generalize D.bt=bt at*;generalize D.n=n at*;generalize D.m=m at*;unfold rv
    go_enter Tryz.func122,Tryz.ntmps122
    have⟨bR,ag⟩:=opn1 w [.bool false,.string ⟨#[]⟩,.string ⟨#[]⟩] 33
    go_upto_region 1 with fail
    generalize w.alloc (.cells #[.bool false,.string ⟨#[]⟩,.string ⟨#[]⟩] 33)=W0 at*;obtain⟨gR,hgR⟩: ∃g,g=w.heap.size:=⟨_,rfl⟩;rw[←hgR] at bR
    simp only[←hgR]
    have kgR:w.heap.size≤gR:=by omega
    clear hgR;have s4:=(HC.out _ ag).1
    go_wp2_with fail
    clear s4
    with_reducible refine(HH.out _ ag).mono ?_
    rintro e wZ ⟨rfl,am⟩;replace ag:=ag.tr am;replace bR:=bR.below am;clear am;obtain⟨s4,c0,c1,c2⟩:=HC.out _ ag;have⟨cgR0,fgR0,cgR1,fgR1,cgR2,fgR2⟩:=bR.all3
    go_wp2_with fail
    refine bodyPost_ret (v:=.agg #[.bool (decide (u.num<0)),.string (nb u.num.natAbs),.string (nb u.den)]) (by simp[results,Tryz.results122,go_sem,cgR0,cgR1,cgR2]) rfl ⟨rfl,(((ag.setCell kgR _).setCell kgR _).setCell kgR _)⟩
theorem before_any (D:TD) (o:TDo D) (a b:Nat) (hab:a≠b) (w:World) (h:TF D w):Calls Tryz.prog 128 #[.pointer (some ⟨D.bt,0,none⟩),.int .i64 (a:Int),.int .i64 (b:Int)] w fun e w'=>e= .returned (.bool (decide (Lp.ordP (D.n+D.m) a<Lp.ordP (D.n+D.m) b)))∧Below w.heap.size w w':=by
 have HH:=Lib.hid (fun W hb=>helper_any D o W (h.below hb));clear h o;generalize D.n+D.m=H at*;have ha:Lp.ordP H a=if a=H then 0 else a+1:=rfl;have hb:Lp.ordP H b=if b=H then 0 else b+1:=rfl;rw[ha,hb];clear ha hb
 by_cases ea:a=H
 ·subst ea
  have eb:b≠a:=fun e=>hab e.symm
  rw[if_pos rfl,if_neg eb,decide_eq_true (by omega)]
  go_enter Tryz.func128,Tryz.ntmps128
  have ag:=(Below.refl w.heap.size w)
  go_upto_region 1 with fail
  go_wp2_with fail
  with_reducible refine(HH.out _ ag).mono ?_
  rintro e wZ ⟨rfl,am⟩;replace ag:=ag.tr am;clear am
  go_wp2_with fail
  with_reducible refine(HH.out _ ag).mono ?_
  rintro e wZ ⟨rfl,am⟩;replace ag:=ag.tr am;clear am
  go_wp2_with fail
  go_ret
  exact⟨rfl,ag⟩
 ·have ea1: ¬(a:Int)=(H:Int):=by omega
  have ea2:((a:Int)==(H:Int))=false:=by simpa using ea1
  rw[if_neg ea]
  by_cases eb:b=H
  ·subst eb
   rw[if_pos rfl,decide_eq_false (by omega)]
   go_enter Tryz.func128,Tryz.ntmps128
   have ag:=(Below.refl w.heap.size w)
   go_upto_region 1 with fail
   go_wp2_with fail
   with_reducible refine(HH.out _ ag).mono ?_
   rintro e wZ ⟨rfl,am⟩;replace ag:=ag.tr am;clear am
   go_wp2_with fail
   with_reducible refine(HH.out _ ag).mono ?_
   rintro e wZ ⟨rfl,am⟩;replace ag:=ag.tr am;clear am
   go_wp2_with fail
   with_reducible refine(HH.out _ ag).mono ?_
   rintro e wZ ⟨rfl,am⟩;replace ag:=ag.tr am;clear am
   go_wp2_with fail
   go_ret
   exact⟨rfl,ag⟩
  ·have eb1: ¬(b:Int)=(H:Int):=by omega
   have eb2:((b:Int)==(H:Int))=false:=by simpa using eb1
   rw[if_neg eb,show decide (a+1<b+1)=decide (a<b) from decide_eq_decide.2 (by omega)]
   go_enter Tryz.func128,Tryz.ntmps128
   have ag:=(Below.refl w.heap.size w)
   go_upto_region 1 with fail
   go_wp2_with fail
   with_reducible refine(HH.out _ ag).mono ?_
   rintro e wZ ⟨rfl,am⟩;replace ag:=ag.tr am;clear am
   go_wp2_with fail
   with_reducible refine(HH.out _ ag).mono ?_
   rintro e wZ ⟨rfl,am⟩;replace ag:=ag.tr am;clear am
   go_wp2_with fail
   go_ret
   exact⟨rfl,ag⟩
theorem eld_fn (D:TD) (o:TDo D) (j B1 B2:Nat) (w:World) (h:TF D w) (h1:w.cell? ⟨B1,0,none⟩=some (.pointer (some ⟨D.bt,0,none⟩))) (h2:w.cell? ⟨B2,0,none⟩=some (.int .i64 (j:Int))) (l1:B1<w.heap.size) (l2:B2<w.heap.size):
  Fn1 NoB 126 #[] #[.pointer (some ⟨B1,0,none⟩),.pointer (some ⟨B2,0,none⟩)] D.m (fun i=>Lp.mat D.m D.n D.A i j) w:=by
 intro W0 i hi ho
 have h:=h.below (ho.below0 (fun _ _ e=>e));have h1:=(ho.cell (p:=⟨B1,0,none⟩) l1 (fun e=>e)).trans h1;have h2:=(ho.cell (p:=⟨B2,0,none⟩) l2 (fun e=>e)).trans h2;have l1:=Nat.lt_of_lt_of_le l1 ho.size;have l2:=Nat.lt_of_lt_of_le l2 ho.size;clear ho
 revert h h1 h2 l1 l2
 generalize W0=w
 intro h h1 h2 l1 l2
 show Calls Tryz.prog 126 #[.int .i64 (i:Int),.pointer (some ⟨B1,0,none⟩),.pointer (some ⟨B2,0,none⟩)] w fun e w'=>e= .returned (rv (Lp.mat D.m D.n D.A i j))∧Below w.heap.size w w'
 have HE:=Lib.hid (fun W hb=>element_any D o i j hi W (h.below hb));generalize Lp.mat D.m D.n D.A i j=x at*;generalize D.bt=bt at*;clear h o hi
 simp only[rv] at HE
 unfold rv
 go_enter Tryz.func126,Tryz.ntmps126
 have⟨bR,ag⟩:=opn1 w [.bool false,.string ⟨#[]⟩,.string ⟨#[]⟩] 33
 go_upto_region 1 with fail
 generalize w.alloc (.cells #[.bool false,.string ⟨#[]⟩,.string ⟨#[]⟩] 33)=W0 at*;obtain⟨gR,hgR⟩: ∃g,g=w.heap.size:=⟨_,rfl⟩;rw[←hgR] at bR
 simp only[←hgR]
 have kgR:w.heap.size≤gR:=by omega
 clear hgR;have h1:=(ag.cell (p:=⟨B1,0,none⟩) l1).trans h1;have h2:=(ag.cell (p:=⟨B2,0,none⟩) l2).trans h2
 go_wp2_with fail
 with_reducible refine(HE.out _ ag).mono ?_
 rintro e wZ ⟨rfl,am⟩;replace ag:=ag.tr am;replace bR:=bR.below am;clear am;have⟨cgR0,fgR0,cgR1,fgR1,cgR2,fgR2⟩:=bR.all3
 go_wp2_with fail
 refine bodyPost_ret (v:=.agg #[.bool (decide (x.num<0)),.string (nb x.num.natAbs),.string (nb x.den)]) (by simp[results,Tryz.results126,go_sem,cgR0,cgR1,cgR2]) rfl ⟨rfl,(((ag.setCell kgR _).setCell kgR _).setCell kgR _)⟩
theorem eld_enters:Enters 126:=enters_of Tryz.func126 (by kernel_rfl) rfl
theorem elr_fn (D:TD) (o:TDo D) (j B1 B2:Nat) (w:World) (h:TF D w) (h1:w.cell? ⟨B1,0,none⟩=some (.pointer (some ⟨D.bt,0,none⟩))) (h2:w.cell? ⟨B2,0,none⟩=some (.int .i64 (j:Int))) (l1:B1<w.heap.size) (l2:B2<w.heap.size):
  Fn1 NoB 121 #[] #[.pointer (some ⟨B1,0,none⟩),.pointer (some ⟨B2,0,none⟩)] D.m (fun i=>Lp.mat D.m D.n D.A i j) w:=by
 intro W0 i hi ho
 have h:=h.below (ho.below0 (fun _ _ e=>e));have h1:=(ho.cell (p:=⟨B1,0,none⟩) l1 (fun e=>e)).trans h1;have h2:=(ho.cell (p:=⟨B2,0,none⟩) l2 (fun e=>e)).trans h2;have l1:=Nat.lt_of_lt_of_le l1 ho.size;have l2:=Nat.lt_of_lt_of_le l2 ho.size;clear ho
 revert h h1 h2 l1 l2
 generalize W0=w
 intro h h1 h2 l1 l2
 show Calls Tryz.prog 121 #[.int .i64 (i:Int),.pointer (some ⟨B1,0,none⟩),.pointer (some ⟨B2,0,none⟩)] w fun e w'=>e= .returned (rv (Lp.mat D.m D.n D.A i j))∧Below w.heap.size w w'
 have HE:=Lib.hid (fun W hb=>element_any D o i j hi W (h.below hb));generalize Lp.mat D.m D.n D.A i j=x at*;generalize D.bt=bt at*;clear h o hi
 simp only[rv] at HE
 unfold rv
 go_enter Tryz.func121,Tryz.ntmps121
 have⟨bR,ag⟩:=opn1 w [.bool false,.string ⟨#[]⟩,.string ⟨#[]⟩] 33
 go_upto_region 1 with fail
 generalize w.alloc (.cells #[.bool false,.string ⟨#[]⟩,.string ⟨#[]⟩] 33)=W0 at*;obtain⟨gR,hgR⟩: ∃g,g=w.heap.size:=⟨_,rfl⟩;rw[←hgR] at bR
 simp only[←hgR]
 have kgR:w.heap.size≤gR:=by omega
 clear hgR;have h1:=(ag.cell (p:=⟨B1,0,none⟩) l1).trans h1;have h2:=(ag.cell (p:=⟨B2,0,none⟩) l2).trans h2
 go_wp2_with fail
 with_reducible refine(HE.out _ ag).mono ?_
 rintro e wZ ⟨rfl,am⟩;replace ag:=ag.tr am;replace bR:=bR.below am;clear am;have⟨cgR0,fgR0,cgR1,fgR1,cgR2,fgR2⟩:=bR.all3
 go_wp2_with fail
 refine bodyPost_ret (v:=.agg #[.bool (decide (x.num<0)),.string (nb x.num.natAbs),.string (nb x.den)]) (by simp[results,Tryz.results121,go_sem,cgR0,cgR1,cgR2]) rfl ⟨rfl,(((ag.setCell kgR _).setCell kgR _).setCell kgR _)⟩
theorem elr_enters:Enters 121:=enters_of Tryz.func121 (by kernel_rfl) rfl
end Go.Proofs.YtinmmkcjjlconaaGreat
namespace Go.Proofs.YtinmmkcjjlconaaGreat
open Go.RowKit W
open Pl (nb bv bv_nb nb_size_zero)
open Lp (S S_succ)
theorem direction_any (D:TD) (o:TDo D) (T:Lp.Tab) (bar:Nat→Bool) (j:Nat) (w:World) (h:TM D w T bar) (sA: ∀i k,i<D.m→Sz (Lp.mat D.m D.n D.A i k) 40000) (sT: ∀i k,i<D.m→k<D.m→Sz (T.a i (D.n+k)) 40000):
  Calls Tryz.prog 101 #[.pointer (some ⟨D.bt,0,none⟩),.int .i64 (j:Int)] w fun e w'=> ∃g,e= .returned (.slice (some ⟨g,0,none⟩) D.m D.m)∧w.heap.size≤g∧RowF w' g D.m (fun i=>S D.m (fun k=>T.a i (D.n+k)*Lp.mat D.m D.n D.A k j))∧Below w.heap.size w w':=by
 have hm:=o.hm;obtain⟨ai,ci,hvi,hai⟩:=o.si;have HT:Hid (∀W,Below w.heap.size w W→TF D W):=Lib.hid (fun W hb=>(h.below hb).tf);have hft:=h.tf;have HC:Hid (∀W,Below w.heap.size w W→W.cell? ⟨D.bt,3,none⟩=some (.int .i64 (D.m:Int))∧W.cell? ⟨D.bt,8,none⟩=some (.slice ai D.m ci)):=Lib.hid (fun W hb=>⟨hft.c hb 3 rfl,(hvi▸hft.c hb 8 rfl)⟩)
 have HI:Hid (∀W,Below w.heap.size w W→∀i,i<D.m→W.cell? ⟨D.gi,i,none⟩=some (.slice (some ⟨D.gq i,0,none⟩) D.m D.m)):=Lib.hid (fun W hb i hi=>((h.below hb).inv (by omega)).2 i hi)
 have HR:Hid (∀W,Below w.heap.size w W→∀i,i<D.m→SlR W (.slice (some ⟨D.gq i,0,none⟩) D.m D.m) D.m (fun k=>T.a i (D.n+k))):=Lib.hid (fun W hb i hi=>⟨_,_,rfl,fun _=>⟨_,rfl,((h.below hb).rows i hi).row (fun _ _=>rfl)⟩⟩)
 have HDot:Hid (∀W B gT gJ i,i<D.m→Below w.heap.size w W→Fn1 NoB 80 #[] #[.pointer (some ⟨B,0,none⟩)] D.m (fun k=>T.a i (D.n+k)) W→W.cell? ⟨gT,0,none⟩=some (.pointer (some ⟨D.bt,0,none⟩))→W.cell? ⟨gJ,0,none⟩=some (.int .i64 (j:Int))→gT<W.heap.size→gJ<W.heap.size→
   Calls Tryz.prog 43 #[.int .i64 (D.m:Int),.func (.func 80) #[] #[.pointer (some ⟨B,0,none⟩)],.func (.func 126) #[] #[.pointer (some ⟨gT,0,none⟩),.pointer (some ⟨gJ,0,none⟩)]] W fun e w'=>e= .returned (rv (S D.m (fun k=>T.a i (D.n+k)*Lp.mat D.m D.n D.A k j)))∧Below W.heap.size W w'):=
  Lib.hid (fun W B gT gJ i hi hb hf h1 h2 l1 l2=>dot_any D.m 40000 (by omega) (by omega) (fun k=>T.a i (D.n+k)) (fun k=>Lp.mat D.m D.n D.A k j) _ _ _ _ _ _ W at_enters eld_enters hf (eld_fn D o j gT gJ W (HT.out W hb) h1 h2 l1 l2) (fun k hk=>sT i k hi hk) (fun k hk=>sA k j hk))
 clear h hft HT hvi sA sT o;obtain⟨G,hG⟩: ∃G:Nat→Rat,G=fun i=>S D.m (fun k=>T.a i (D.n+k)*Lp.mat D.m D.n D.A k j):=⟨_,rfl⟩;rw[←hG]
 have HG:Hid (∀i,S D.m (fun k=>T.a i (D.n+k)*Lp.mat D.m D.n D.A k j)=G i):=Lib.hid (fun i=>by rw[hG])
 simp only[HG.out] at HDot
 clear hG HG
 have hai2: ∀i,i<D.m→ai=some ⟨D.gi,0,none⟩:=fun i hi=>hai (by omega)
 clear hai;generalize D.bt=bt at*;generalize D.m=m at*;generalize D.gi=gi at*;generalize D.gq=gq at*
 go_enter Tryz.func101,Tryz.ntmps101
 have⟨bT,bJ,ag⟩:=opn2 w [.pointer (some ⟨bt,0,none⟩)] [.int .i64 j] 72 3
 go_upto_region 1 with fail
 generalize (w.alloc (.cells #[.pointer (some ⟨bt,0,none⟩)] 72)).alloc (.cells #[.int .i64 j] 3)=W0 at*;generalize hgJ:w.heap.size+1=gJ at*;obtain⟨gT,hgT⟩: ∃g,g=w.heap.size:=⟨_,rfl⟩;rw[←hgT] at bT
 simp only[←hgT]
 have ngTgJ:gT≠gJ:=by omega
 have kgT:w.heap.size≤gT:=by omega
 have kgJ:w.heap.size≤gJ:=by omega
 clear hgT hgJ
 have hmk:=Lib.hid (fun W=>run_mkR (m:Int) m rfl (by omega) W)
 have s3:=(HC.out _ ag).1;have hmk1:=hmk.out W0;have⟨cT0,fT0⟩:=bT.all1;have kgD:=ag.size;replace ag:=ag.alloc ag.size (.cells (zr3 m) 33);have dgT:=bT.lt;have dgJ:=bJ.lt;replace bT:=bT.alloc (.cells (zr3 m) 33);replace bJ:=bJ.alloc (.cells (zr3 m) 33);have hd:=Row3.made W0 m
 go_upto_region 2 with fail
 clear cT0 fT0;clear hmk hmk1 s3;generalize W0.heap.size=gD at*;generalize W0.alloc (.cells (zr3 m) 33)=WD at*
 have ngDgT:gD≠gT:=by omega
 have ngDgJ:gD≠gJ:=by omega
 clear dgT dgJ
 go_wp2_with fail
 go_loopw [14] (fun i wr=> ∃k:Nat,k≤m∧i= .int .i64 k∧Rx wr gT [.pointer (some ⟨bt,0,none⟩)]∧Rx wr gJ [.int .i64 (j:Int)]∧Row3 wr gD m (fun x=>if x<k then q3 (G x) else z3)∧Below w.heap.size w wr) (fun i _=>m-(intOf i).toNat)
 case atStart=>exact⟨0,by omega,rfl,bT,bJ,hd.congr (fun i _=>(if_neg (by omega)).symm),ag⟩
 case round=>
  clear ag bT bJ hd;obtain⟨k,hk,rfl,bT,bJ,hd,ag⟩:=hrel
  by_cases hlt:k<m
  ·have hk0:(0:Int)≤(k:Int):=by omega
   have hk1:(k:Int)<(m:Int):=by omega
   obtain rfl:=hai2 k hlt;have HRk:=Lib.hid (fun W hb=>HR.out W hb k hlt);have HIk:=Lib.hid (fun W hb=>HI.out W hb k hlt);have HDk:=Lib.hid (fun W B hb hf h1 h2 l1 l2=>HDot.out W B gT gJ k hlt hb hf h1 h2 l1 l2);have HAt:=Lib.hid (fun W hb=>at_call _ m _ W (HRk.out W hb))
   simp only[rv] at HDk
   go_upto_region 5 with fail
   replace ag:=ag.drew;replace bT:=bT.drew;replace bJ:=bJ.drew;replace hd:=hd.drew
   refine wp_schH (S:=(fun w'=>w'.cell? ⟨gT,0,none⟩=some (.pointer (some ⟨bt,0,none⟩))∧w'.cell? ⟨bt,3,none⟩=some (.int .i64 (m:Int))∧w'.cell? ⟨bt,8,none⟩=some (.slice (some ⟨gi,0,none⟩) m ci)∧w'.cell? ⟨gi,k,none⟩=some (.slice (some ⟨gq k,0,none⟩) m m))) (ps 0 13 (.p 14 (.c 13 (.c 15 (.p 16 (.c 17 .e)))))) [5,6,2,3] fun A WD hA aq=>?_
   simp only[←aq.out] at ag bT bJ hd
   clear aq
   refine⟨?_,fun ap=>?_⟩
   ·try dsimp only
    with_reducible exact⟨bT.at 0 rfl,(HC.out _ ag).1,(HC.out _ ag).2,HIk.out _ ag⟩
   repeat(refine isP ?_;refine tkO ?_)
   refine caO (HAt.out _ ag) fun e wZ hz=>?_
   obtain⟨B,rfl,hf,am⟩:=hz;replace ag:=ag.tr am;replace bT:=bT.below am;replace bJ:=bJ.below am;replace hd:=hd.below am;clear am
   refine⟨_,rfl,?_,?_⟩
   ·try dsimp only
    with_reducible exact⟨bT.at 0 rfl,(HC.out _ ag).1,(HC.out _ ag).2,HIk.out _ ag⟩
   refine caO (HDk.out _ B ag hf (bT.at 0 rfl) (bJ.at 0 rfl) bT.lt bJ.lt) fun e wZ hz=>?_
   obtain⟨rfl,am⟩:=hz;replace ag:=ag.tr am;replace bT:=bT.below am;replace bJ:=bJ.below am;replace hd:=hd.below am;replace hf:=hf.below am;clear am;clear hf
   refine⟨_,rfl,?_,?_⟩
   ·try dsimp only
    with_reducible exact⟨bT.at 0 rfl,(HC.out _ ag).1,(HC.out _ ag).2,HIk.out _ ag⟩
   repeat(refine isP ?_;refine tkO ?_)
   refine acO fun aa KK hF hK=>?_
   dsimp only[Fa] at hF
   obtain⟨cR0,cR1,cR2⟩:=hd.2 k hlt;have fR0:=hd.3 (k*3);have fR1:=hd.3 (k*3+1);have fR2:=hd.3 (k*3+1+1)
   go_simp
   clear cR0 cR1 cR2 fR0 fR1 fR2;replace hd:=hd.put hlt (q3 (G k));have ag:=below_sto3 ag kgD (i:=k) (q3 (G k));replace bT:=bT.sto3o (h:=gD) (i:=k) ngDgT (q3 (G k));replace bJ:=bJ.sto3o (h:=gD) (i:=k) ngDgJ (q3 (G k));have hWS:sto3 wZ gD k (q3 (G k))=((wZ.setCell ⟨gD,k*3,none⟩ (.bool (decide ((G k).num<0)))).setCell ⟨gD,k*3+1,none⟩ (.string (nb (G k).num.natAbs))).setCell ⟨gD,k*3+1+1,none⟩ (.string (nb (G k).den)):=rfl
   rw[hWS] at ag hd bT bJ;clear hWS;generalize ((wZ.setCell ⟨gD,k*3,none⟩ (.bool (decide ((G k).num<0)))).setCell ⟨gD,k*3+1,none⟩ (.string (nb (G k).num.natAbs))).setCell ⟨gD,k*3+1+1,none⟩ (.string (nb (G k).den))=WS at*
   (first|refine hK.out undef _ ?_ (fun ap=>?_)|(go_wp2_with fail;refine hK.out undef _ ?_ (fun ap=>?_)))
   ·try dsimp only
    with_reducible exact⟨bT.at 0 rfl,(HC.out _ ag).1,(HC.out _ ag).2,HIk.out _ ag⟩
   clear hK KK hF aa
   refine enO hA ?_
   clear hA
   go_wp2_with fail
   go_roundw
   case rel=>
    refine⟨k+1,by omega,by go_num,bT,bJ,hd.congr (fun x hx=>?_),ag⟩
    by_cases e:x=k
    ·subst e;rw[upd_same,if_pos (by omega)]
    ·rw[upd_ne e]
     by_cases e2:x<k
     ·rw[if_pos e2,if_pos (by omega)]
     ·rw[if_neg e2,if_neg (by omega)]
   case measure=>simp[intOf];omega
  ·obtain rfl:k=m:=by omega
   go_wp2_with fail
   go_ret
   exact⟨gD,rfl,kgD,hd.row (fun i hi=>if_pos hi),ag⟩
theorem pr1_fn (D:TD) (o:TDo D) (T:Lp.Tab) (bar:Nat→Bool) (N gc:Nat) (pc lc:Array Value) (g:Nat→Rat) (B1 B2:Nat) (w:World) (h:TM D w T bar) (ec:Enters gc) (hc:Fn1 NoB gc pc lc N g w) (hb: ∀i,i<D.m→T.bas i<N) (h1:w.cell? ⟨B1,0,none⟩=some (.func (.func gc) pc lc)) (h2:w.cell? ⟨B2,0,none⟩=some (.pointer (some ⟨D.bt,0,none⟩))) (l1:B1<w.heap.size) (l2:B2<w.heap.size):
  Fn1 NoB 75 #[] #[.pointer (some ⟨B1,0,none⟩),.pointer (some ⟨B2,0,none⟩)] D.m (fun i=>g (T.bas i)) w:=by
 intro W0 i hi ho
 have h:=h.below (ho.below0 (fun _ _ e=>e));have hc:=hc.later ho;have h1:=(ho.cell (p:=⟨B1,0,none⟩) l1 (fun e=>e)).trans h1;have h2:=(ho.cell (p:=⟨B2,0,none⟩) l2 (fun e=>e)).trans h2;have l1:=Nat.lt_of_lt_of_le l1 ho.size;have l2:=Nat.lt_of_lt_of_le l2 ho.size;clear ho
 revert h hc h1 h2 l1 l2
 generalize W0=w
 intro h hc h1 h2 l1 l2
 show Calls Tryz.prog 75 #[.int .i64 (i:Int),.pointer (some ⟨B1,0,none⟩),.pointer (some ⟨B2,0,none⟩)] w fun e w'=>e= .returned (rv (g (T.bas i)))∧Below w.heap.size w w'
 have ec: ∀args w,(callFunc gc args).run Tryz.prog w= .ok (.enter gc args) w:=ec;have HE:=Lib.hid (fun W (hw:Below w.heap.size w W)=>hc W (T.bas i) (hb i hi) (off_of hw));obtain⟨ab,cb,hvb,hab⟩:=o.sb
 obtain rfl:=hab (by omega)
 have hft:=h.tf;have HC:Hid (∀W,Below w.heap.size w W→W.cell? ⟨D.bt,5,none⟩=some (.slice (some ⟨D.gb,0,none⟩) D.m cb)):=Lib.hid (fun W hb=>(hvb▸hft.c hb 5 rfl))
 have HI:Hid (∀W,Below w.heap.size w W→W.cell? ⟨D.gb,i,none⟩=some (.int .i64 (T.bas i:Int))):=Lib.hid (fun W hb=>((h.below hb).basis (by omega)).2 i hi)
 have hi0:(0:Int)≤(i:Int):=by omega
 have hi1:(i:Int)<(D.m:Int):=by omega
 clear h hft hc hb o hvb hab;generalize g (T.bas i)=x at*;generalize T.bas i=j at*;generalize D.bt=bt at*;generalize D.gb=gb at*;generalize D.m=m at*
 simp only[rv] at HE
 unfold rv
 go_enter Tryz.func75,Tryz.ntmps75
 have⟨bR,ag⟩:=opn1 w [.bool false,.string ⟨#[]⟩,.string ⟨#[]⟩] 33
 go_upto_region 1 with fail
 generalize w.alloc (.cells #[.bool false,.string ⟨#[]⟩,.string ⟨#[]⟩] 33)=W0 at*;obtain⟨gR,hgR⟩: ∃g,g=w.heap.size:=⟨_,rfl⟩;rw[←hgR] at bR
 simp only[←hgR]
 have kgR:w.heap.size≤gR:=by omega
 clear hgR
 go_wp2_with fail
 replace ag:=ag.drew;replace bR:=bR.drew
 refine wp_schH (S:=(fun w'=>w'.cell? ⟨B1,0,none⟩=some (.func (.func gc) pc lc)∧w'.cell? ⟨B2,0,none⟩=some (.pointer (some ⟨bt,0,none⟩))∧w'.cell? ⟨bt,5,none⟩=some (.slice (some ⟨gb,0,none⟩) m cb)∧w'.cell? ⟨gb,i,none⟩=some (.int .i64 (j:Int)))) (ps 0 8 (.c 8 (.c 9 .e))) [1,2,0,4] fun A WD hA aq=>?_
 simp only[←aq.out] at ag bR
 clear aq
 refine⟨?_,fun ap=>?_⟩
 ·try dsimp only
  with_reducible exact⟨(ag.cell (p:=⟨B1,0,none⟩) l1).trans h1,(ag.cell (p:=⟨B2,0,none⟩) l2).trans h2,HC.out _ ag,HI.out _ ag⟩
 repeat(refine isP ?_;refine tkO ?_)
 refine caO (HE.out _ ag) fun e wZ hz=>?_
 obtain⟨rfl,am⟩:=hz;replace ag:=ag.tr am;replace bR:=bR.below am;clear am
 refine⟨_,rfl,?_,?_⟩
 ·try dsimp only
  with_reducible exact⟨(ag.cell (p:=⟨B1,0,none⟩) l1).trans h1,(ag.cell (p:=⟨B2,0,none⟩) l2).trans h2,HC.out _ ag,HI.out _ ag⟩
 refine acO fun aa KK hF hK=>?_
 dsimp only[Fa] at hF
 have⟨cgR0,fgR0,cgR1,fgR1,cgR2,fgR2⟩:=bR.all3;replace ag:=((ag.setCell (p:=⟨gR,0,none⟩) kgR (.bool (decide (x.num<0)))).setCell (p:=⟨gR,1,none⟩) kgR (.string (nb x.num.natAbs))).setCell (p:=⟨gR,2,none⟩) kgR (.string (nb x.den));replace bR:=bR.put3 (.bool (decide (x.num<0))) (.string (nb x.num.natAbs)) (.string (nb x.den))
 go_simp
 clear cgR0 fgR0 cgR1 fgR1 cgR2 fgR2;generalize ((wZ.setCell ⟨gR,0,none⟩ (.bool (decide (x.num<0)))).setCell ⟨gR,1,none⟩ (.string (nb x.num.natAbs))).setCell ⟨gR,2,none⟩ (.string (nb x.den))=WS at*
 (first|refine hK.out undef _ ?_ (fun ap=>?_)|(go_wp2_with fail;refine hK.out undef _ ?_ (fun ap=>?_)))
 ·try dsimp only
  with_reducible exact⟨(ag.cell (p:=⟨B1,0,none⟩) l1).trans h1,(ag.cell (p:=⟨B2,0,none⟩) l2).trans h2,HC.out _ ag,HI.out _ ag⟩
 clear hK KK hF aa
 refine enO hA ?_
 clear hA;have⟨cgR0,fgR0,cgR1,fgR1,cgR2,fgR2⟩:=bR.all3
 go_wp2_with fail
 refine bodyPost_ret (v:=.agg #[.bool (decide (x.num<0)),.string (nb x.num.natAbs),.string (nb x.den)]) (by simp[results,Tryz.results75,go_sem,cgR0,cgR1,cgR2]) rfl ⟨rfl,ag⟩
theorem pr1_enters:Enters 75:=enters_of Tryz.func75 (by kernel_rfl) rfl
theorem pr2_fn (D:TD) (o:TDo D) (T:Lp.Tab) (bar:Nat→Bool) (k B1 B2:Nat) (hk:k<D.m) (w:World) (h:TM D w T bar) (h1:w.cell? ⟨B1,0,none⟩=some (.pointer (some ⟨D.bt,0,none⟩))) (h2:w.cell? ⟨B2,0,none⟩=some (.int .i64 (k:Int))) (l1:B1<w.heap.size) (l2:B2<w.heap.size):
  Fn1 NoB 76 #[] #[.pointer (some ⟨B1,0,none⟩),.pointer (some ⟨B2,0,none⟩)] D.m (fun i=>T.a i (D.n+k)) w:=by
 intro W0 i hi ho
 have h:=h.below (ho.below0 (fun _ _ e=>e));have h1:=(ho.cell (p:=⟨B1,0,none⟩) l1 (fun e=>e)).trans h1;have h2:=(ho.cell (p:=⟨B2,0,none⟩) l2 (fun e=>e)).trans h2;have l1:=Nat.lt_of_lt_of_le l1 ho.size;have l2:=Nat.lt_of_lt_of_le l2 ho.size;clear ho
 revert h h1 h2 l1 l2
 generalize W0=w
 intro h h1 h2 l1 l2
 show Calls Tryz.prog 76 #[.int .i64 (i:Int),.pointer (some ⟨B1,0,none⟩),.pointer (some ⟨B2,0,none⟩)] w fun e w'=>e= .returned (rv (T.a i (D.n+k)))∧Below w.heap.size w w'
 obtain⟨ai,ci,hvi,hai⟩:=o.si
 obtain rfl:=hai (by omega)
 have hft:=h.tf;have HC:Hid (∀W,Below w.heap.size w W→W.cell? ⟨D.bt,8,none⟩=some (.slice (some ⟨D.gi,0,none⟩) D.m ci)):=Lib.hid (fun W hb=>(hvi▸hft.c hb 8 rfl))
 have HI:Hid (∀W,Below w.heap.size w W→W.cell? ⟨D.gi,i,none⟩=some (.slice (some ⟨D.gq i,0,none⟩) D.m D.m)):=Lib.hid (fun W hb=>((h.below hb).inv (by omega)).2 i hi)
 have HR:Hid (∀W,Below w.heap.size w W→W.cell? ⟨D.gq i,k*3,none⟩=some (.bool (decide ((T.a i (D.n+k)).num<0)))∧W.cell? ⟨D.gq i,k*3+1,none⟩=some (.string (nb (T.a i (D.n+k)).num.natAbs))∧W.cell? ⟨D.gq i,k*3+1+1,none⟩=some (.string (nb (T.a i (D.n+k)).den))):=Lib.hid (fun W hb=>((h.below hb).rows i hi).2 k hk)
 have hi0:(0:Int)≤(i:Int):=by omega
 have hi1:(i:Int)<(D.m:Int):=by omega
 have hk0:(0:Int)≤(k:Int):=by omega
 have hk1:(k:Int)<(D.m:Int):=by omega
 clear h hft o hvi hai;generalize T.a i (D.n+k)=x at*;generalize D.bt=bt at*;generalize D.gi=gi at*;generalize D.gq i=gq at*;generalize D.m=m at*;unfold rv
 go_enter Tryz.func76,Tryz.ntmps76
 have⟨bR,ag⟩:=opn1 w [.bool false,.string ⟨#[]⟩,.string ⟨#[]⟩] 33
 go_upto_region 1 with fail
 generalize w.alloc (.cells #[.bool false,.string ⟨#[]⟩,.string ⟨#[]⟩] 33)=W0 at*;obtain⟨gR,hgR⟩: ∃g,g=w.heap.size:=⟨_,rfl⟩;rw[←hgR] at bR
 simp only[←hgR]
 have kgR:w.heap.size≤gR:=by omega
 clear hgR
 go_wp2_with fail
 replace ag:=ag.drew;replace bR:=bR.drew
 refine wp_schH (S:=(fun w'=>w'.cell? ⟨B1,0,none⟩=some (.pointer (some ⟨bt,0,none⟩))∧w'.cell? ⟨B2,0,none⟩=some (.int .i64 (k:Int))∧w'.cell? ⟨bt,8,none⟩=some (.slice (some ⟨gi,0,none⟩) m ci)∧w'.cell? ⟨gi,i,none⟩=some (.slice (some ⟨gq,0,none⟩) m m)∧w'.cell? ⟨gq,k*3,none⟩=some (.bool (decide (x.num<0)))∧w'.cell? ⟨gq,k*3+1,none⟩=some (.string (nb x.num.natAbs))∧w'.cell? ⟨gq,k*3+1+1,none⟩=some (.string (nb x.den)))) (ps 0 10 (.c 10 .e)) [1,0,2,4] fun A WD hA aq=>?_
 simp only[←aq.out] at ag bR
 clear aq
 refine⟨?_,fun ap=>?_⟩
 ·try dsimp only
  with_reducible exact⟨(ag.cell (p:=⟨B1,0,none⟩) l1).trans h1,(ag.cell (p:=⟨B2,0,none⟩) l2).trans h2,HC.out _ ag,HI.out _ ag,(HR.out _ ag).1,(HR.out _ ag).2.1,(HR.out _ ag).2.2⟩
 repeat(refine isP ?_;refine tkO ?_)
 refine acO fun aa KK hF hK=>?_
 dsimp only[Fa] at hF
 have⟨cgR0,fgR0,cgR1,fgR1,cgR2,fgR2⟩:=bR.all3;replace ag:=((ag.setCell (p:=⟨gR,0,none⟩) kgR (.bool (decide (x.num<0)))).setCell (p:=⟨gR,1,none⟩) kgR (.string (nb x.num.natAbs))).setCell (p:=⟨gR,2,none⟩) kgR (.string (nb x.den));replace bR:=bR.put3 (.bool (decide (x.num<0))) (.string (nb x.num.natAbs)) (.string (nb x.den))
 go_simp
 clear cgR0 fgR0 cgR1 fgR1 cgR2 fgR2;generalize ((WD.setCell ⟨gR,0,none⟩ (.bool (decide (x.num<0)))).setCell ⟨gR,1,none⟩ (.string (nb x.num.natAbs))).setCell ⟨gR,2,none⟩ (.string (nb x.den))=WS at*
 (first|refine hK.out undef _ ?_ (fun ap=>?_)|(go_wp2_with fail;refine hK.out undef _ ?_ (fun ap=>?_)))
 ·try dsimp only
  with_reducible exact⟨(ag.cell (p:=⟨B1,0,none⟩) l1).trans h1,(ag.cell (p:=⟨B2,0,none⟩) l2).trans h2,HC.out _ ag,HI.out _ ag,(HR.out _ ag).1,(HR.out _ ag).2.1,(HR.out _ ag).2.2⟩
 clear hK KK hF aa
 refine enO hA ?_
 clear hA;have⟨cgR0,fgR0,cgR1,fgR1,cgR2,fgR2⟩:=bR.all3
 go_wp2_with fail
 refine bodyPost_ret (v:=.agg #[.bool (decide (x.num<0)),.string (nb x.num.natAbs),.string (nb x.den)]) (by simp[results,Tryz.results76,go_sem,cgR0,cgR1,cgR2]) rfl ⟨rfl,ag⟩
theorem pr2_enters:Enters 76:=enters_of Tryz.func76 (by kernel_rfl) rfl
theorem prices_any (D:TD) (o:TDo D) (T:Lp.Tab) (bar:Nat→Bool) (gc:Nat) (pc lc:Array Value) (g:Nat→Rat) (w:World) (h:TM D w T bar) (ec:Enters gc) (hc:Fn1 NoB gc pc lc (D.n+D.m+1) g w) (hb: ∀i,i<D.m→T.bas i<D.n+D.m+1) (sG: ∀j,j<D.n+D.m+1→Sz (g j) 40000) (sT: ∀i k,i<D.m→k<D.m→Sz (T.a i (D.n+k)) 40000):
  Calls Tryz.prog 41 #[.pointer (some ⟨D.bt,0,none⟩),.func (.func gc) pc lc] w fun e w'=> ∃gy,e= .returned (.slice (some ⟨gy,0,none⟩) D.m D.m)∧w.heap.size≤gy∧RowF w' gy D.m (fun k=>S D.m (fun i=>g (T.bas i)*T.a i (D.n+k)))∧Below w.heap.size w w':=by
 have hm:=o.hm;have HT:Hid (∀W,Below w.heap.size w W→TM D W T bar):=Lib.hid (fun W hb=>h.below hb);have hft:=h.tf;have HC:Hid (∀W,Below w.heap.size w W→W.cell? ⟨D.bt,3,none⟩=some (.int .i64 (D.m:Int))):=Lib.hid (fun W hb=>hft.c hb 3 rfl)
 have HDot:Hid (∀W gC gT gK k,k<D.m→Below w.heap.size w W→W.cell? ⟨gC,0,none⟩=some (.func (.func gc) pc lc)→W.cell? ⟨gT,0,none⟩=some (.pointer (some ⟨D.bt,0,none⟩))→W.cell? ⟨gK,0,none⟩=some (.int .i64 (k:Int))→gC<W.heap.size→gT<W.heap.size→gK<W.heap.size→
   Calls Tryz.prog 43 #[.int .i64 (D.m:Int),.func (.func 75) #[] #[.pointer (some ⟨gC,0,none⟩),.pointer (some ⟨gT,0,none⟩)],.func (.func 76) #[] #[.pointer (some ⟨gT,0,none⟩),.pointer (some ⟨gK,0,none⟩)]] W fun e w'=>e= .returned (rv (S D.m (fun i=>g (T.bas i)*T.a i (D.n+k))))∧Below W.heap.size W w'):=
  Lib.hid (fun W gC gT gK k hk hw h0 h1 h2 l0 l1 l2=>dot_any D.m 40000 (by omega) (by omega) (fun i=>g (T.bas i)) (fun i=>T.a i (D.n+k)) _ _ _ _ _ _ W pr1_enters pr2_enters (pr1_fn D o T bar (D.n+D.m+1) gc pc lc g gC gT W (HT.out W hw) ec (hc.below hw) hb h0 h1 l0 l1) (pr2_fn D o T bar k gT gK hk W (HT.out W hw) h1 h2 l1 l2) (fun i hi=>sG _ (hb i hi)) (fun i hi=>sT i k hi hk))
 clear h hft HT sG sT o ec hc hb;obtain⟨G,hG⟩: ∃G:Nat→Rat,G=fun k=>S D.m (fun i=>g (T.bas i)*T.a i (D.n+k)):=⟨_,rfl⟩;rw[←hG]
 have HG:Hid (∀k,S D.m (fun i=>g (T.bas i)*T.a i (D.n+k))=G k):=Lib.hid (fun k=>by rw[hG])
 simp only[HG.out] at HDot
 clear hG HG;generalize D.bt=bt at*;generalize D.m=m at*
 go_enter Tryz.func41,Tryz.ntmps41
 have⟨bT,bC,ag⟩:=opn2 w [.pointer (some ⟨bt,0,none⟩)] [.func (.func gc) pc lc] 72 43
 go_upto_region 1 with fail
 generalize (w.alloc (.cells #[.pointer (some ⟨bt,0,none⟩)] 72)).alloc (.cells #[.func (.func gc) pc lc] 43)=W0 at*;generalize hgC:w.heap.size+1=gC at*;obtain⟨gT,hgT⟩: ∃g,g=w.heap.size:=⟨_,rfl⟩;rw[←hgT] at bT
 simp only[←hgT]
 have ngTgC:gT≠gC:=by omega
 have kgT:w.heap.size≤gT:=by omega
 have kgC:w.heap.size≤gC:=by omega
 clear hgT hgC
 have hmk:=Lib.hid (fun W=>run_mkR (m:Int) m rfl (by omega) W)
 have s3:=HC.out _ ag;have hmk1:=hmk.out W0;have⟨cT0,fT0⟩:=bT.all1;have kgD:=ag.size;replace ag:=ag.alloc ag.size (.cells (zr3 m) 33);have dgT:=bT.lt;have dgC:=bC.lt;replace bT:=bT.alloc (.cells (zr3 m) 33);replace bC:=bC.alloc (.cells (zr3 m) 33);have hd:=Row3.made W0 m
 go_upto_region 2 with fail
 clear cT0 fT0;clear hmk hmk1 s3;generalize W0.heap.size=gD at*;generalize W0.alloc (.cells (zr3 m) 33)=WD at*
 have ngDgT:gD≠gT:=by omega
 have ngDgC:gD≠gC:=by omega
 clear dgT dgC
 go_wp2_with fail
 go_loopw [14] (fun i wr=> ∃k:Nat,k≤m∧i= .int .i64 k∧Rx wr gT [.pointer (some ⟨bt,0,none⟩)]∧Rx wr gC [.func (.func gc) pc lc]∧Row3 wr gD m (fun x=>if x<k then q3 (G x) else z3)∧Below w.heap.size w wr) (fun i _=>m-(intOf i).toNat)
 case atStart=>exact⟨0,by omega,rfl,bT,bC,hd.congr (fun i _=>(if_neg (by omega)).symm),ag⟩
 case round=>
  clear ag bT bC hd;obtain⟨k,hk,rfl,bT,bC,hd,ag⟩:=hrel
  by_cases hlt:k<m
  ·have hk0:(0:Int)≤(k:Int):=by omega
   have hk1:(k:Int)<(m:Int):=by omega
   have HDk:=Lib.hid (fun W gK hb h0 h1 h2 l0 l1 l2=>HDot.out W gC gT gK k hlt hb h0 h1 h2 l0 l1 l2)
   simp only[rv] at HDk
   have dD:=hd.lt;have kgK:=ag.size;replace ag:=ag.alloc ag.size (.cells #[.int .i64 (k:Int)] 3);have dgT:=bT.lt;have dgC:=bC.lt;replace bT:=bT.alloc (.cells #[.int .i64 (k:Int)] 3);replace bC:=bC.alloc (.cells #[.int .i64 (k:Int)] 3);replace hd:=hd.alloc (.cells #[.int .i64 (k:Int)] 3);have bK:Rx (wr.alloc (.cells #[.int .i64 (k:Int)] 3)) wr.heap.size [.int .i64 (k:Int)]:=Rx.new wr _ rfl [.int .i64 (k:Int)] 3
   go_upto_region 5 with fail
   generalize wr.heap.size=gK at*;generalize wr.alloc (.cells #[.int .i64 (k:Int)] 3)=WgK at*
   have ngTgK:gT≠gK:=by omega
   have ngCgK:gC≠gK:=by omega
   clear dgT dgC
   have ngDgK:gD≠gK:=by omega
   clear dD;replace ag:=ag.drew;replace bT:=bT.drew;replace bC:=bC.drew;replace bK:=bK.drew;replace hd:=hd.drew
   refine wp_schH (S:=(fun w'=>w'.cell? ⟨gT,0,none⟩=some (.pointer (some ⟨bt,0,none⟩))∧w'.cell? ⟨gK,0,none⟩=some (.int .i64 (k:Int))∧w'.cell? ⟨bt,3,none⟩=some (.int .i64 (m:Int)))) (ps 0 8 (.c 8 (.p 9 (.c 10 .e)))) [5,6,2,3] fun A WD hA aq=>?_
   simp only[←aq.out] at ag bT bC bK hd
   clear aq
   refine⟨?_,fun ap=>?_⟩
   ·try dsimp only
    with_reducible exact⟨bT.at 0 rfl,bK.at 0 rfl,HC.out _ ag⟩
   repeat(refine isP ?_;refine tkO ?_)
   refine caO (HDk.out _ gK ag (bC.at 0 rfl) (bT.at 0 rfl) (bK.at 0 rfl) bC.lt bT.lt bK.lt) fun e wZ hz=>?_
   obtain⟨rfl,am⟩:=hz;replace ag:=ag.tr am;replace bT:=bT.below am;replace bC:=bC.below am;replace bK:=bK.below am;replace hd:=hd.below am;clear am
   refine⟨_,rfl,?_,?_⟩
   ·try dsimp only
    with_reducible exact⟨bT.at 0 rfl,bK.at 0 rfl,HC.out _ ag⟩
   repeat(refine isP ?_;refine tkO ?_)
   refine acO fun aa KK hF hK=>?_
   dsimp only[Fa] at hF
   obtain⟨cR0,cR1,cR2⟩:=hd.2 k hlt;have fR0:=hd.3 (k*3);have fR1:=hd.3 (k*3+1);have fR2:=hd.3 (k*3+1+1)
   go_simp
   clear cR0 cR1 cR2 fR0 fR1 fR2;replace hd:=hd.put hlt (q3 (G k));have ag:=below_sto3 ag kgD (i:=k) (q3 (G k));replace bT:=bT.sto3o (h:=gD) (i:=k) ngDgT (q3 (G k));replace bC:=bC.sto3o (h:=gD) (i:=k) ngDgC (q3 (G k));replace bK:=bK.sto3o (h:=gD) (i:=k) ngDgK (q3 (G k));have hWS:sto3 wZ gD k (q3 (G k))=((wZ.setCell ⟨gD,k*3,none⟩ (.bool (decide ((G k).num<0)))).setCell ⟨gD,k*3+1,none⟩ (.string (nb (G k).num.natAbs))).setCell ⟨gD,k*3+1+1,none⟩ (.string (nb (G k).den)):=rfl
   rw[hWS] at ag hd bT bC bK;clear hWS;generalize ((wZ.setCell ⟨gD,k*3,none⟩ (.bool (decide ((G k).num<0)))).setCell ⟨gD,k*3+1,none⟩ (.string (nb (G k).num.natAbs))).setCell ⟨gD,k*3+1+1,none⟩ (.string (nb (G k).den))=WS at*
   (first|refine hK.out undef _ ?_ (fun ap=>?_)|(go_wp2_with fail;refine hK.out undef _ ?_ (fun ap=>?_)))
   ·try dsimp only
    with_reducible exact⟨bT.at 0 rfl,bK.at 0 rfl,HC.out _ ag⟩
   clear hK KK hF aa
   refine enO hA ?_
   clear hA
   go_wp2_with fail
   go_roundw
   case rel=>
    refine⟨k+1,by omega,by go_num,bT,bC,hd.congr (fun x hx=>?_),ag⟩
    by_cases e:x=k
    ·subst e;rw[upd_same,if_pos (by omega)]
    ·rw[upd_ne e]
     by_cases e2:x<k
     ·rw[if_pos e2,if_pos (by omega)]
     ·rw[if_neg e2,if_neg (by omega)]
   case measure=>simp[intOf];omega
  ·obtain rfl:k=m:=by omega
   go_wp2_with fail
   go_ret
   exact⟨gD,rfl,kgD,hd.row (fun i hi=>if_pos hi),ag⟩
end Go.Proofs.YtinmmkcjjlconaaGreat
namespace Go.Proofs.YtinmmkcjjlconaaGreat
open Go.RowKit W
open Pl (nb bv bv_nb nb_size_zero)
open Lp (S S_succ)
def P1(n:Nat)(T:Lp.Tab)(r s k:Nat):Lp.Tab:= {T with a:=fun i x=>if i=r∧x<n+k then T.a r x/T.a r s else T.a i x}
def P2 (n:Nat) (T:Lp.Tab) (r s i k:Nat):Lp.Tab:= {T with
  a:=fun i' x=>if i'=r then T.a r x/T.a r s else if i'<i∨(i'=i∧x<n+k) then T.a i' x-T.a i' s*(T.a r x/T.a r s) else T.a i' x
  b:=fun i'=>if i'=r then T.b r/T.a r s else if i'<i then T.b i'-T.a i' s*(T.b r/T.a r s) else T.b i'}
section
variable {D:TD} {w:World} {T:Lp.Tab} {bar:Nat→Bool} {r s i k:Nat} {y:Rat}
theorem TM.drew{U:Lp.Tab}(h:TM D w U bar):TM D w.drew U bar:=h.below (Below.refl _ _).drew
theorem TM.alloc{U:Lp.Tab}(h:TM D w U bar)(o:Obj):TM D (w.alloc o) U bar:=h.below ((Below.refl _ _).alloc (Nat.le_refl _) o)
theorem p1_zero(h:TM D w T bar):TM D w (P1 D.n T r s 0) bar:=h.congr (fun i k hi hk=>by simp only[P1];rw[if_neg (by omega)]) (fun _ _=>rfl) (fun _ _=>rfl)
theorem p1_at:(P1 D.n T r s k).a r (D.n+k)=T.a r (D.n+k):=by simp only[P1];rw[if_neg (by omega)]
theorem p1_step (hy:y=T.a r (D.n+k)/T.a r s) (h:TM D w {P1 D.n T r s k with a:=fun i' x=>if i'=r∧x=D.n+k then y else(P1 D.n T r s k).a i' x} bar):TM D w (P1 D.n T r s (k+1)) bar:=
 h.congr (fun i x hi hx=>by
  simp only[P1]
  by_cases e:i=r
  ·subst e
   by_cases e2:x=k
   ·subst e2;rw[if_pos ⟨rfl,rfl⟩,if_pos ⟨rfl,by omega⟩,hy]
   ·rw[if_neg (by omega)]
    by_cases e3:x<k
    ·rw[if_pos ⟨rfl,by omega⟩,if_pos ⟨rfl,by omega⟩]
    ·rw[if_neg (by omega),if_neg (by omega)]
  ·rw[if_neg (fun h=>e h.1),if_neg (fun h=>e h.1),if_neg (fun h=>e h.1)]) (fun _ _=>rfl) (fun _ _=>rfl)
theorem p2_zero (hy:y=T.b r/T.a r s) (h:TM D w {P1 D.n T r s D.m with b:=fun i'=>if i'=r then y else(P1 D.n T r s D.m).b i'} bar):TM D w (P2 D.n T r s 0 0) bar:=
 h.congr (fun i x hi hx=>by
  simp only[P1,P2]
  by_cases e:i=r
  ·subst e;rw[if_pos ⟨rfl,by omega⟩,if_pos rfl]
  ·rw[if_neg (fun h=>e h.1),if_neg e,if_neg (by omega)])
  (fun i hi=>by
   simp only[P1,P2]
   by_cases e:i=r
   ·rw[if_pos e,if_pos e,hy]
   ·rw[if_neg e,if_neg e,if_neg (by omega)]) (fun _ _=>rfl)
theorem p2_skip (hs:i=r∨T.a i s=0) (h:TM D w (P2 D.n T r s i 0) bar):TM D w (P2 D.n T r s (i+1) 0) bar:=
 h.congr (fun i' x hi hx=>by
  simp only[P2]
  by_cases e:i'=r
  ·rw[if_pos e,if_pos e]
  ·rw[if_neg e,if_neg e]
   by_cases e2:i'=i
   ·subst e2
    rw[if_neg (by omega),if_pos (by omega),hs.resolve_left e,Rat.zero_mul,Rat.sub_eq_add_neg,Rat.neg_zero,Rat.add_zero]
   ·by_cases e3:i'<i
    ·rw[if_pos (by omega),if_pos (by omega)]
    ·rw[if_neg (by omega),if_neg (by omega)])
  (fun i' hi=>by
   simp only[P2]
   by_cases e:i'=r
   ·rw[if_pos e,if_pos e]
   ·rw[if_neg e,if_neg e]
    by_cases e2:i'=i
    ·subst e2
     rw[if_neg (by omega),if_pos (by omega),hs.resolve_left e,Rat.zero_mul,Rat.sub_eq_add_neg,Rat.neg_zero,Rat.add_zero]
    ·by_cases e3:i'<i
     ·rw[if_pos (by omega),if_pos (by omega)]
     ·rw[if_neg (by omega),if_neg (by omega)]) (fun _ _=>rfl)
theorem p2_row{y':Nat}:(P2 D.n T r s i k).a r (D.n+y')=T.a r (D.n+y')/T.a r s:=if_pos rfl
theorem p2_at (hir:i≠r):(P2 D.n T r s i k).a i (D.n+k)=T.a i (D.n+k):=by
 simp only[P2];rw[if_neg hir,if_neg (by omega)]
theorem p2_bat (hir:i≠r):(P2 D.n T r s i k).b i=T.b i:=by
 simp only[P2];rw[if_neg hir,if_neg (by omega)]
theorem p2_br:(P2 D.n T r s i k).b r=T.b r/T.a r s:=if_pos rfl
theorem p2_elem0 (hir:i≠r) (hz:T.a r (D.n+k)/T.a r s=0) (h:TM D w (P2 D.n T r s i k) bar):TM D w (P2 D.n T r s i (k+1)) bar:=
 h.congr (fun i' x hi hx=>by
  simp only[P2]
  by_cases e:i'=r
  ·rw[if_pos e,if_pos e]
  ·rw[if_neg e,if_neg e]
   by_cases e2:i'=i∧x=k
   ·obtain⟨rfl,rfl⟩:=e2
    rw[if_neg (by omega),if_pos (by omega),hz,Rat.mul_zero,Rat.sub_eq_add_neg,Rat.neg_zero,Rat.add_zero]
   ·by_cases e3:i'<i∨(i'=i∧D.n+x<D.n+k)
    ·rw[if_pos e3,if_pos (by omega)]
    ·rw[if_neg e3,if_neg (by omega)]) (fun _ _=>rfl) (fun _ _=>rfl)
theorem p2_elem (hir:i≠r) (hy:y=T.a i (D.n+k)-T.a i s*(T.a r (D.n+k)/T.a r s)) (h:TM D w {P2 D.n T r s i k with a:=fun i' x=>if i'=i∧x=D.n+k then y else(P2 D.n T r s i k).a i' x} bar):TM D w (P2 D.n T r s i (k+1)) bar:=
 h.congr (fun i' x hi hx=>by
  simp only[P2]
  by_cases e2:i'=i∧x=k
  ·obtain⟨rfl,rfl⟩:=e2
   rw[if_pos ⟨rfl,rfl⟩,if_neg hir,if_pos (by omega),hy]
  ·rw[if_neg (by omega)]
   by_cases e:i'=r
   ·rw[if_pos e,if_pos e]
   ·rw[if_neg e,if_neg e]
    by_cases e3:i'<i∨(i'=i∧D.n+x<D.n+k)
    ·rw[if_pos e3,if_pos (by omega)]
    ·rw[if_neg e3,if_neg (by omega)]) (fun _ _=>rfl) (fun _ _=>rfl)
theorem p2_next (hir:i≠r) (hy:y=T.b i-T.a i s*(T.b r/T.a r s)) (h:TM D w {P2 D.n T r s i D.m with b:=fun i'=>if i'=i then y else(P2 D.n T r s i D.m).b i'} bar):TM D w (P2 D.n T r s (i+1) 0) bar:=
 h.congr (fun i' x hi hx=>by
  simp only[P2]
  by_cases e:i'=r
  ·rw[if_pos e,if_pos e]
  ·rw[if_neg e,if_neg e]
   by_cases e3:i'<i+1
   ·rw[if_pos (by omega),if_pos (by omega)]
   ·rw[if_neg (by omega),if_neg (by omega)])
  (fun i' hi=>by
   simp only[P2]
   by_cases e2:i'=i
   ·subst e2;rw[if_pos rfl,if_neg hir,if_pos (by omega),hy]
   ·rw[if_neg e2]
    by_cases e:i'=r
    ·rw[if_pos e,if_pos e]
    ·rw[if_neg e,if_neg e]
     by_cases e3:i'<i
     ·rw[if_pos (by omega),if_pos (by omega)]
     ·rw[if_neg (by omega),if_neg (by omega)]) (fun _ _=>rfl)
theorem p2_end (h:TM D w {P2 D.n T r s D.m 0 with bas:=fun i=>if i=r then s else(P2 D.n T r s D.m 0).bas i} bar):TM D w (Lp.pivot T r s) bar:=
 h.congr (fun i x hi hx=>by
  simp only[P2,Lp.pivot]
  by_cases e:i=r
  ·rw[if_pos e,if_pos e]
  ·rw[if_neg e,if_neg e,if_pos (by omega)])
  (fun i hi=>by
   simp only[P2,Lp.pivot]
   by_cases e:i=r
   ·rw[if_pos e,if_pos e]
   ·rw[if_neg e,if_neg e,if_pos (by omega)])
  (fun i hi=>by simp only[P2,Lp.pivot])
end
end Go.Proofs.YtinmmkcjjlconaaGreat
