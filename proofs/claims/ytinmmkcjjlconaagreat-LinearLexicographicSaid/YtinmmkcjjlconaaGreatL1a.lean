/- Parts of the proofs about this seat's statements. -/
import Derived.Laws.Strings
import Derived.Shelf.Small.Bits
import Derived.Shelf.Small.Strs
import Derived.Shelf.Small.Wraps
import Derived.Test.YtinmmkcjjlconaaGreatProg
import Derived.Lib.BitFns
import Derived.Laws.BitsAllLaws
import Derived.Laws.Bits64
import Derived.Lib.ItoaNum
import Derived.Lib.Strings
import Derived.Shelf.Strings.Cut
import Derived.RangeFuncNested
import Derived.RangeFuncCalls
set_option maxRecDepth 100000
set_option maxHeartbeats 16000000
namespace Rq
def sgN(neg:Bool)(n:Nat):Int:=if neg=true then-(n:Int) else n
theorem sgN_natAbs(neg:Bool)(n:Nat):(sgN neg n).natAbs=n:=by unfold sgN;split<;>omega
theorem sgN_self (x:Int):sgN (decide (x<0)) x.natAbs=x:=by
 unfold sgN
 by_cases h:x<0
 ·rw[if_pos (decide_eq_true h)];omega
 ·rw[if_neg (by simpa using h)];omega
theorem sgN_zero(neg:Bool):sgN neg 0=0:=by unfold sgN;split<;>rfl
theorem sgN_mul (a b:Bool) (m n:Nat):sgN a m*sgN b n=sgN (a !=b) (m*n):=by
 cases a<;>cases b<;>simp[sgN,Int.neg_mul,Int.mul_neg]
theorem sgN_mulN (a:Bool) (m n:Nat):sgN a m*(n:Int)=sgN a (m*n):=by
 cases a<;>simp[sgN,Int.neg_mul]
theorem sgN_add (a:Bool) (m n:Nat):sgN a m+sgN a n=sgN a (m+n):=by
 cases a<;>simp[sgN]<;>omega
theorem sgN_sub (a:Bool) {m n:Nat} (h:n≤m):sgN a m+sgN (!a) n=sgN a (m-n):=by
 cases a<;>simp[sgN]<;>omega
def mk(neg:Bool)(n d:Nat):Rat:=mkRat (sgN neg n) d
theorem mk_num {neg:Bool} {n d:Nat} (h:0<d):(mk neg n d).num=sgN neg (n/Nat.gcd n d):=by
 unfold mk
 rw[Rat.num_mkRat,if_neg (by omega),sgN_natAbs,Nat.gcd_comm d n]
 cases neg
 ·simp[sgN]
 ·simp only[sgN,if_true]
  rw[Int.neg_ediv_of_dvd (by exact Int.ofNat_dvd.2 (Nat.gcd_dvd_left n d))]
  simp
theorem mk_den {neg:Bool} {n d:Nat} (h:0<d):(mk neg n d).den=d/Nat.gcd n d:=by
 unfold mk
 rw[Rat.den_mkRat,if_neg (by omega),sgN_natAbs,Nat.gcd_comm d n]
theorem mk_abs{neg:Bool}{n d:Nat}(h:0<d):(mk neg n d).num.natAbs=n/Nat.gcd n d:=by rw[mk_num h,sgN_natAbs]
theorem div_gcd_eq_zero {n d:Nat} (_:0<d):n/Nat.gcd n d=0↔n=0:=by
 constructor
 ·intro h0
  have h1:=Nat.div_mul_cancel (Nat.gcd_dvd_left n d);rw[h0,Nat.zero_mul] at h1
  exact h1.symm
 ·rintro rfl;simp
theorem mk_neg {neg:Bool} {n d:Nat} (h:0<d):decide ((mk neg n d).num<0)=(neg&&decide (n/Nat.gcd n d≠0)):=by
 rw[mk_num h];generalize n/Nat.gcd n d=k
 cases neg
 ·simp[sgN]
 ·simp only[sgN,if_true,Bool.true_and]
  apply Bool.eq_iff_iff.2
  simp only[decide_eq_true_eq]
  omega
theorem mk_neg_pos {neg:Bool} {n d:Nat} (h:0<d) (hn:n≠0):decide ((mk neg n d).num<0)=neg:=by
 rw[mk_neg h,decide_eq_true (show n/Nat.gcd n d≠0 from fun e=>hn ((div_gcd_eq_zero h).1 e)),Bool.and_true]
theorem mk_zero(neg:Bool)(d:Nat):mk neg 0 d=0:=by unfold mk;rw[sgN_zero,Rat.zero_mkRat]
theorem mk_self(q:Rat):mk (decide (q.num<0)) q.num.natAbs q.den=q:=by unfold mk;rw[sgN_self,Rat.mkRat_self]
theorem ext3 {p q:Rat} (h1:decide (p.num<0)=decide (q.num<0)) (h2:p.num.natAbs=q.num.natAbs) (h3:p.den=q.den):p=q:=by
 rw[←mk_self p,←mk_self q,h1,h2,h3]
theorem mul_mk (p q:Rat):mk (decide (p.num<0) !=decide (q.num<0)) (p.num.natAbs*q.num.natAbs) (p.den*q.den)=p*q:=by
 rw[Rat.mul_def',mk,←sgN_mul,sgN_self,sgN_self]
theorem add_same {p q:Rat} (h:decide (p.num<0)=decide (q.num<0)):mk (decide (p.num<0)) (p.num.natAbs*q.den+q.num.natAbs*p.den) (p.den*q.den)=p+q:=by
 rw[Rat.add_def',mk,←sgN_add,←sgN_mulN,←sgN_mulN,sgN_self,h,sgN_self]
theorem add_ge {p q:Rat} (h:decide (p.num<0)≠decide (q.num<0)) (hle:q.num.natAbs*p.den≤p.num.natAbs*q.den):mk (decide (p.num<0)) (p.num.natAbs*q.den-q.num.natAbs*p.den) (p.den*q.den)=p+q:=by
 have e:(!decide (p.num<0))=decide (q.num<0):=by revert h;cases decide (p.num<0)<;>cases decide (q.num<0)<;>simp
 rw[Rat.add_def',mk,←sgN_sub _ hle,←sgN_mulN,←sgN_mulN,sgN_self,e,sgN_self]
theorem add_lt {p q:Rat} (h:decide (p.num<0)≠decide (q.num<0)) (hlt:p.num.natAbs*q.den<q.num.natAbs*p.den):mk (decide (q.num<0)) (q.num.natAbs*p.den-p.num.natAbs*q.den) (p.den*q.den)=p+q:=by
 rw[Rat.add_comm,Nat.mul_comm p.den q.den]
 exact add_ge (Ne.symm h) (Nat.le_of_lt hlt)
theorem div_mk {p q:Rat} (h:q≠0):mk (decide (p.num<0) !=decide (q.num<0)) (p.num.natAbs*q.den) (p.den*q.num.natAbs)=p/q:=by
 have h0:q.num≠0:=fun e=>h (Rat.num_eq_zero.1 e)
 have e1:p/q=mk (decide (p.num<0) !=decide (q.num<0)) (p.num.natAbs*q.den) (p.den*q.num.natAbs):=by
  rw[Rat.div_def,Rat.mul_def',mk,Rat.num_inv,Rat.den_inv,if_neg h0]
  congr 1
  rw[←sgN_mul,sgN_self]
  congr 1
  unfold sgN
  by_cases hn:q.num<0
  ·rw[if_pos (decide_eq_true hn),Int.sign_eq_neg_one_of_neg hn];omega
  ·rw[if_neg (by simpa using hn),Int.sign_eq_one_of_pos (by omega)];omega
 exact e1.symm
def sgn(q:Rat):Int:=if q.num.natAbs=0 then 0 else if q.num<0 then-1 else 1
theorem sgn_sign (q:Rat):sgn q=q.num.sign:=by
 unfold sgn
 split
 ·have:q.num=0:=by omega
  rw[this];rfl
 ·split
  ·rw[Int.sign_eq_neg_one_of_neg (by assumption)]
  ·rw[Int.sign_eq_one_of_pos (by omega)]
theorem neg_parts (q:Rat):(-q).num.natAbs=q.num.natAbs∧(-q).den=q.den:=by
 simp
theorem neg_sign (q:Rat):decide ((-q).num<0)=(!decide (q.num<0)&&decide (q.num.natAbs≠0)):=by
 rw[Rat.neg_num]
 apply Bool.eq_iff_iff.2
 simp only[Bool.and_eq_true,Bool.not_eq_true',decide_eq_true_eq,decide_eq_false_iff_not]
 omega
theorem num_zero {q:Rat}:q.num.natAbs=0↔q=0:=by
 rw[Int.natAbs_eq_zero,Rat.num_eq_zero]
theorem sgn_lt {q:Rat}:sgn q= -1↔q<0:=by
 rw[sgn_sign,Int.sign_eq_neg_one_iff_neg,Rat.lt_iff]
 simp
theorem sgn_gt {q:Rat}:sgn q=1↔0<q:=by
 rw[sgn_sign,Int.sign_eq_one_iff_pos,Rat.lt_iff]
 simp
theorem sgn_zero {q:Rat}:sgn q=0↔q=0:=by
 rw[sgn_sign,Int.sign_eq_zero_iff_zero,Rat.num_eq_zero]
theorem sgn_cases (q:Rat):sgn q= -1∨sgn q=0∨sgn q=1:=by
 unfold sgn;split
 ·exact .inr (.inl rfl)
 ·split
  ·exact .inl rfl
  ·exact .inr (.inr rfl)
theorem sgn_neg (q:Rat):sgn (-q)= -sgn q:=by
 rw[sgn_sign,sgn_sign,Rat.neg_num,Int.sign_neg]
end Rq
namespace Pl
def bval(l:List UInt8):Nat:=l.foldl (fun a b=>a*256+b.toNat) 0
theorem foldl_val (l:List UInt8) (x:Nat):l.foldl (fun a b=>a*256+b.toNat) x=x*256^l.length+bval l:=by
 induction l generalizing x with
 |nil=>simp[bval]
 |cons b t ih=>
  simp only[List.foldl_cons,List.length_cons,bval]
  rw[ih,ih (0*256+b.toNat)]
  grind
theorem bval_nil:bval []=0:=rfl
theorem bval_cons (b:UInt8) (t:List UInt8):bval (b::t)=b.toNat*256^t.length+bval t:=by
 show List.foldl _ _ _=_
 rw[List.foldl_cons,foldl_val];simp
theorem bval_append (s t:List UInt8):bval (s++t)=bval s*256^t.length+bval t:=by
 show List.foldl _ _ _=_
 rw[List.foldl_append,foldl_val];rfl
theorem bval_snoc (s:List UInt8) (b:UInt8):bval (s++ [b])=bval s*256+b.toNat:=by
 rw[bval_append];simp[bval]
theorem bval_lt (l:List UInt8):bval l<256^l.length:=by
 induction l with
 |nil=>simp[bval]
 |cons b t ih=>
  rw[bval_cons,List.length_cons,Nat.pow_succ];have:=b.toNat_lt
  have h2:b.toNat*256^t.length≤255*256^t.length:=Nat.mul_le_mul_right _ (by omega)
  omega
def enc(n:Nat):List UInt8:=if n=0 then [] else enc (n/256)++ [UInt8.ofNat (n %256)]
termination_by n
decreasing_by omega
theorem enc_zero:enc 0= []:=by rw[enc];simp
theorem enc_pos{n:Nat}(h:n≠0):enc n=enc (n/256)++ [UInt8.ofNat (n %256)]:=by rw[enc];simp[h]
theorem bval_enc (n:Nat):bval (enc n)=n:=by
 induction n using Nat.strongRecOn with
 | _ n ih=>
  by_cases h:n=0
  ·subst h;rw[enc_zero];rfl
  ·rw[enc_pos h,bval_snoc,ih _ (by omega)]
   simp;omega
theorem enc_eq_nil {n:Nat}:enc n= []↔n=0:=by
 constructor
 ·intro h;have:=bval_enc n;rw[h] at this;simpa [bval] using this.symm
 ·rintro rfl;exact enc_zero
theorem enc_snoc (n:Nat) (b:UInt8) (h:n≠0∨b≠0):enc (n*256+b.toNat)=enc n++ [b]:=by
 have hb:=b.toNat_lt
 have hne:n*256+b.toNat≠0:=by
  rcases h with h|h
  ·omega
  ·have:b.toNat≠0:=fun hh=>h (UInt8.toNat_inj.1 (by simpa using hh))
   omega
 rw[enc_pos hne,show(n*256+b.toNat)/256=n by omega,show(n*256+b.toNat)%256=b.toNat by omega]
 simp
def strip0(l:List UInt8):List UInt8:=l.dropWhile (· ==0)
theorem strip0_zero(t:List UInt8):strip0 (0::t)=strip0 t:=by simp[strip0]
theorem strip0_nz{b:UInt8}(t:List UInt8)(h:b≠0):strip0 (b::t)=b::t:=by simp[strip0,h]
theorem enc_foldl (l:List UInt8) (n:Nat) (h:n≠0):enc (n*256^l.length+bval l)=enc n++l:=by
 induction l generalizing n with
 |nil=>simp[bval]
 | cons b t ih=>
  have h1:n*256^(b::t).length+bval (b::t)=(n*256+b.toNat)*256^t.length+bval t:=by
   rw[bval_cons,List.length_cons];grind
  rw[h1,ih _ (by omega),enc_snoc _ _ (Or.inl h)];simp
theorem strip0_eq (l:List UInt8):strip0 l=enc (bval l):=by
 induction l with
 |nil=>simp[strip0,bval,enc_zero]
 | cons b t ih=>
  by_cases h:b=0
  ·subst h;rw[strip0_zero,ih,bval_cons];simp
  ·rw[strip0_nz _ h,bval_cons,enc_foldl]
   ·have:=enc_snoc 0 b (Or.inr h)
    simp[enc_zero] at this
    rw[this];rfl
   ·intro hh;exact h (UInt8.toNat_inj.1 (by simpa using hh))
theorem enc_length_le {n k:Nat}:(enc n).length≤k↔n<256^k:=by
  constructor
  · intro h
    have:=bval_lt (enc n);rw[bval_enc] at this
    exact Nat.lt_of_lt_of_le this (Nat.pow_le_pow_right (by omega) h)
  · induction k generalizing n with
    | zero => intro h;have:n=0:=by simpa using h
              subst this;simp[enc_zero]
    | succ k ih=>
      intro h
      by_cases hn:n=0
      ·subst hn;simp[enc_zero]
      · rw[enc_pos hn];simp only[List.length_append,List.length_singleton]
        have:(enc (n/256)).length≤k:=ih (by rw[Nat.pow_succ] at h;omega)
        omega
theorem strip0_length (l:List UInt8):(strip0 l).length≤l.length:=by
 unfold strip0;exact(List.dropWhile_sublist _).length_le
theorem enc_bval_length(l:List UInt8):(enc (bval l)).length≤l.length:=by rw[←strip0_eq];exact strip0_length l
def dv:List Int→Int
  | []=>0
  |d::l=>d+16777216*dv l
def Dig(l:List Int):Prop:= ∀d∈l,0≤d∧d<16777216
theorem Dig.nil:Dig []:=by intro d h;cases h
theorem Dig.cons {d:Int} {l:List Int} (h0:0≤d) (h1:d<16777216) (h:Dig l):Dig (d::l):=by
 intro x hx;rcases List.mem_cons.1 hx with rfl|hx
 ·exact⟨h0,h1⟩
 ·exact h x hx
theorem Dig.tail{d:Int}{l:List Int}(h:Dig (d::l)):Dig l:=fun x hx=>h x (List.mem_cons_of_mem _ hx)
theorem Dig.head{d:Int}{l:List Int}(h:Dig (d::l)):0≤d∧d<16777216:=h d (List.mem_cons_self)
theorem Dig.append {s t:List Int} (hs:Dig s) (ht:Dig t):Dig (s++t):=by
 intro x hx;rcases List.mem_append.1 hx with h|h
 ·exact hs x h
 ·exact ht x h
theorem Dig.snoc{s:List Int}{d:Int}(hs:Dig s)(h0:0≤d)(h1:d<16777216):Dig (s++ [d]):=hs.append (Dig.cons h0 h1 Dig.nil)
theorem Dig.take{l:List Int}(h:Dig l)(k:Nat):Dig (l.take k):=fun x hx=>h x (List.mem_of_mem_take hx)
theorem Dig.drop{l:List Int}(h:Dig l)(k:Nat):Dig (l.drop k):=fun x hx=>h x (List.mem_of_mem_drop hx)
theorem Dig.get{l:List Int}(h:Dig l)(k:Nat)(hk:k<l.length):0≤l[k]∧l[k]<16777216:=h _ (List.getElem_mem hk)
theorem dv_append (s t:List Int):dv (s++t)=dv s+16777216^s.length*dv t:=by
 induction s with
 |nil=>simp[dv]
 |cons d l ih=>simp only[List.cons_append,dv,ih,List.length_cons];grind
theorem dv_snoc(s:List Int)(d:Int):dv (s++ [d])=dv s+16777216^s.length*d:=by rw[dv_append];simp[dv]
theorem dv_nonneg {l:List Int} (h:Dig l):0≤dv l:=by
 induction l with
 |nil=>simp[dv]
 |cons d l ih=>have:=ih h.tail;have:=h.head;simp only[dv];omega
theorem pow_pos(k:Nat):(0:Int)<16777216^k:=Int.pow_pos (by omega)
theorem dv_lt {l:List Int} (h:Dig l):dv l<16777216^l.length:=by
 induction l with
 |nil=>simp[dv]
 |cons d l ih=>have:=ih h.tail;have:=h.head;simp only[dv,List.length_cons,Int.pow_succ];omega
def digs(n:Nat):List Int:=if n=0 then [] else((n %16777216:Nat):Int)::digs (n/16777216)
termination_by n
decreasing_by omega
theorem digs_zero:digs 0= []:=by rw[digs];simp
theorem digs_pos{n:Nat}(h:n≠0):digs n=((n %16777216:Nat):Int)::digs (n/16777216):=by rw[digs];simp[h]
theorem digs_dig (n:Nat):Dig (digs n):=by
 induction n using Nat.strongRecOn with
 |_ n ih=>
  by_cases h:n=0
  ·subst h;rw[digs_zero];exact Dig.nil
  ·rw[digs_pos h];exact Dig.cons (by omega) (by omega) (ih _ (by omega))
theorem dv_digs (n:Nat):dv (digs n)=n:=by
 induction n using Nat.strongRecOn with
 |_ n ih=>
  by_cases h:n=0
  ·subst h;rw[digs_zero];rfl
  ·rw[digs_pos h];simp only[dv];rw[ih _ (by omega)];omega
def Trim(l:List Int):Prop:= ∀h:l≠ [],l.getLast h≠0
theorem digs_dv {l:List Int} (hd:Dig l) (ht:Trim l):digs (dv l).toNat=l:=by
 induction l with
 |nil=>simp[dv,digs_zero]
 | cons d l ih=>
  have h0:=hd.head;have hn:=dv_nonneg hd.tail
  by_cases hl:l= []
  ·subst hl
   have:=ht (by simp);simp at this
   have hne:(dv [d]).toNat≠0:=by simp[dv];omega
   rw[digs_pos hne]
   have e1:(dv [d]).toNat=d.toNat:=by simp[dv]
   rw[e1,show d.toNat/16777216=0 by omega,digs_zero]
   congr 1;omega
  ·have ht':Trim l:=by
    intro h;have:=ht (by simp);rwa [List.getLast_cons h] at this
   have ih':=ih hd.tail ht'
   have hpos:dv l≠0:=by
    intro hz;rw[hz] at ih';simp[digs_zero] at ih';exact hl ih'
   have hne:(dv (d::l)).toNat≠0:=by simp only[dv];omega
   rw[digs_pos hne]
   have e1:(dv (d::l)).toNat/16777216=(dv l).toNat:=by simp only[dv];omega
   rw[e1,ih']
   congr 1
   simp only[dv];omega
theorem trim_digs (n:Nat):Trim (digs n):=by
 induction n using Nat.strongRecOn with
 | _ n ih=>
  by_cases h:n=0
  ·subst h;rw[digs_zero];intro h;exact absurd rfl h
  ·intro hne
   have ih':=ih (n/16777216) (by omega)
   by_cases hl:digs (n/16777216)= []
   ·have hz:n/16777216=0:=by have:=dv_digs (n/16777216);rw[hl] at this;simp[dv] at this;omega
    have e:digs n= [((n %16777216:Nat):Int)]:=by rw[digs_pos h,hl]
    simp only[e,List.getLast_singleton];omega
   ·have:=ih' hl
    have e:=digs_pos h
    have:(digs n).getLast hne=(digs (n/16777216)).getLast hl:=by
     simp only[e];rw[List.getLast_cons hl]
    rw[this];assumption
theorem digs_eq_nil {n:Nat}:digs n= []↔n=0:=by
 constructor
 ·intro h;have:=dv_digs n;rw[h] at this;simp[dv] at this;omega
 ·rintro rfl;exact digs_zero
theorem digs_length_le {n k:Nat}:(digs n).length≤k↔n<16777216^k:=by
  constructor
  · intro h
    have h1:=dv_lt (digs_dig n);rw[dv_digs] at h1
    have h2:(16777216:Nat)^(digs n).length≤16777216^k:=Nat.pow_le_pow_right (by omega) h
    have h3:((16777216:Nat)^(digs n).length:Nat)=((16777216:Int)^(digs n).length):=by simp
    omega
  · induction k generalizing n with
    | zero => intro h;have:n=0:=by simpa using h
              subst this;simp[digs_zero]
    | succ k ih=>
      intro h
      by_cases hn:n=0
      ·subst hn;simp[digs_zero]
      · rw[digs_pos hn];simp only[List.length_cons]
        have:=ih (n:=n/16777216) (by rw[Nat.pow_succ] at h;omega)
        omega
end Pl
namespace Pl
def bv(s:ByteArray):Nat:=bval s.data.toList
def nb(n:Nat):ByteArray:=⟨(enc n).toArray⟩
theorem bv_nb(n:Nat):bv (nb n)=n:=by simp[bv,nb,bval_enc]
theorem nb_size_le {n k:Nat}:(nb n).size≤k↔n<256^k:=by
 have:(nb n).size=(enc n).length:=by simp[nb,ByteArray.size]
 rw[this];exact enc_length_le
theorem nb_bv_size (s:ByteArray):(nb (bv s)).size≤s.size:=by
 have:(nb (bv s)).size=(enc (bv s)).length:=by simp[nb,ByteArray.size]
 rw[this];exact enc_bval_length _
theorem nb_size_zero {n:Nat}:(nb n).size=0↔n=0:=by
 have:(nb n).size=(enc n).length:=by simp[nb,ByteArray.size]
 rw[this,List.length_eq_zero_iff,enc_eq_nil]
theorem bv_lt (s:ByteArray):bv s<256^s.size:=by
 have:=bval_lt s.data.toList;simpa [bv] using this
theorem ext_of_data {s t:ByteArray} (h:s.data.toList=t.data.toList):s=t:=by
 cases s;cases t;simp at h;simp[h]
theorem take_snoc (s:ByteArray) (k:Nat) (h:k<s.size):s.data.toList.take (k+1)=s.data.toList.take k++ [s[k]]:=by
 rw[List.take_succ_eq_append_getElem (by simpa using h)];rfl
theorem drop_cons (s:ByteArray) (k:Nat) (h:k<s.size):s.data.toList.drop k=s[k]::s.data.toList.drop (k+1):=by
 rw[List.drop_eq_getElem_cons (by simpa using h)];rfl
theorem extract_list (s:ByteArray) (k:Nat):(s.extract k s.size).data.toList=s.data.toList.drop k:=by
 simp[ByteArray.data_extract]
 exact List.take_of_length_le (by simp)
def Zeros(s:ByteArray)(k:Nat):Prop:=strip0 (s.data.toList.drop k)=strip0 s.data.toList
theorem Zeros.zero(s:ByteArray):Zeros s 0:=rfl
theorem Zeros.succ {s:ByteArray} {k:Nat} (h:Zeros s k) (hk:k<s.size) (hz:((s[k].toNat:Int)==0)=true):Zeros s (k+1):=by
 unfold Zeros at*;rw[←h,drop_cons s k hk]
 have:s[k]=0:=UInt8.toNat_inj.1 (by simpa using hz)
 rw[this,strip0_zero]
theorem Zeros.stop {s:ByteArray} {k:Nat} (h:Zeros s k) (hk:k<s.size) (hz:((s[k].toNat:Int)==0)=false):s.extract k s.size=nb (bv s):=by
 apply ext_of_data
 rw[extract_list]
 show _=enc (bv s)
 unfold bv;rw[←strip0_eq,←h,drop_cons s k hk,strip0_nz]
 intro e;simp[e] at hz
theorem Zeros.full {s:ByteArray} {k:Nat} (h:Zeros s k) (hk: ¬k<s.size):s.extract k s.size=nb (bv s):=by
 apply ext_of_data
 rw[extract_list]
 show _=enc (bv s)
 unfold bv
 rw[←strip0_eq,←h,List.drop_of_length_le (by simpa using hk)]
 rfl
theorem trim_zero {l:List Int} (hz:dv (l.take 0)=dv l):l.take 0=digs (dv l).toNat:=by
 simp[dv] at hz;simp[←hz,digs_zero]
theorem trim_succ {l:List Int} {n:Nat} (hn:n<l.length) (hz:dv (l.take (n+1))=dv l) (h:(l[n]==0)=true):dv (l.take n)=dv l:=by
 rw[←hz,List.take_succ_eq_append_getElem hn,dv_snoc]
 have:l[n]=0:=by simpa using h
 rw[this];simp
theorem getLast_snoc(t:List Int)(x:Int)(h:t++ [x]≠ []):(t++ [x]).getLast h=x:=by simp
theorem trim_stop {l:List Int} {n:Nat} (hd:Dig l) (hn:n<l.length) (hz:dv (l.take (n+1))=dv l) (h:(l[n]==0)=false):l.take (n+1)=digs (dv l).toNat:=by
 rw[←hz,digs_dv (hd.take _)]
 have key: ∀(m:List Int) (hm:m≠ []),m=l.take n++ [l[n]]→m.getLast hm≠0:=by
  intro m hm e;subst e;rw[getLast_snoc];simpa using h
 intro h0
 exact key _ h0 (List.take_succ_eq_append_getElem hn)
def tk(s:ByteArray)(m:Nat):Nat:=bval (s.data.toList.take m)
theorem tk_zero(s:ByteArray):tk s 0=0:=by simp[tk,bval]
theorem tk_size(s:ByteArray):tk s s.size=bv s:=by unfold tk bv;rw[List.take_of_length_le (by simp)]
theorem tk_succ (s:ByteArray) (k:Nat) (h:k<s.size):tk s (k+1)=tk s k*256+s[k].toNat:=by
 unfold tk;rw[take_snoc s k h,bval_snoc]
theorem tk_mono(s:ByteArray)(k:Nat)(h:k<s.size):tk s k≤tk s (k+1):=by rw[tk_succ s k h];omega
theorem tk_pos {n m:Nat} (hm:0<m) (hk:m≤(nb n).size):tk (nb n) m≠0:=by
 have h0:strip0 (nb n).data.toList=(nb n).data.toList:=by rw[strip0_eq];simp[nb,bval_enc]
 have h1:0<(nb n).size:=by omega
 have hc:=drop_cons (nb n) 0 h1
 simp only[List.drop_zero] at hc
 have hb:(nb n)[0]≠0:=by
  intro e
  rw[hc,e,strip0_zero] at h0;have:=strip0_length ((nb n).data.toList.drop (0+1));rw[h0] at this;simp at this;omega
 have h2:tk (nb n) 1≠0:=by
  rw[tk_succ _ 0 h1,tk_zero]
  intro e;apply hb;apply UInt8.toNat_inj.1;simpa using e
 obtain⟨j,rfl⟩: ∃j,m=j+1:=⟨m-1,by omega⟩
 clear hm
 induction j with
 |zero=>exact h2
 |succ j ih=>have:=tk_mono (nb n) (j+1) (by omega);have:=ih (by omega);omega
def Mid(s:ByteArray)(s0 k d:Nat):Prop:=tk s k=tk s s0*256^(k-s0)+d∧d<256^(k-s0)
theorem Mid.start(s:ByteArray)(s0:Nat):Mid s s0 s0 0:=by simp[Mid]
theorem Mid.succ {s:ByteArray} {s0 k d:Nat} (h:Mid s s0 k d) (h0:s0≤k) (hk:k<s.size):Mid s s0 (k+1) (d*256+s[k].toNat):=by
 obtain⟨h1,h2⟩:=h
 have e:k+1-s0=(k-s0)+1:=by omega
 have hb:=s[k].toNat_lt
 refine⟨?_,?_⟩
 ·rw[tk_succ s k hk,h1,e,Nat.pow_succ];grind
 ·rw[e,Nat.pow_succ];omega
theorem Mid.lt {s:ByteArray} {s0 k d:Nat} (h:Mid s s0 k d) (hk:k<s0+3):d<65536:=by
 have h2:=h.2
 have:(256:Nat)^(k-s0)≤256^2:=Nat.pow_le_pow_right (by omega) (by omega)
 omega
theorem Mid.lt' {s:ByteArray} {s0 k d:Nat} (h:Mid s s0 k d) (hk:k≤s0+3):d<16777216:=by
 have h2:=h.2
 have:(256:Nat)^(k-s0)≤256^3:=Nat.pow_le_pow_right (by omega) (by omega)
 omega
theorem Mid.done {s:ByteArray} {s0 m d:Nat} (h:Mid s s0 m d) (hs:s0=m-3) (hp:tk s m≠0):digs (tk s m)=(d:Int)::digs (tk s s0):=by
 obtain⟨h1,h2⟩:=h
 by_cases h3:3≤m
 ·have e:m-s0=3:=by omega
  rw[e] at h1 h2;rw[digs_pos hp]
  have a1:tk s m %16777216=d:=by omega
  have a2:tk s m/16777216=tk s s0:=by omega
  rw[a1,a2]
 ·have e:s0=0:=by omega
  subst e;rw[tk_zero] at h1⊢
  have:(256:Nat)^(m-0)≤256^3:=Nat.pow_le_pow_right (by omega) (by omega)
  rw[digs_pos hp]
  have a1:tk s m %16777216=d:=by omega
  have a2:tk s m/16777216=0:=by omega
  rw[a1,a2]
theorem of_step {n m s0 d:Nat} {l:List Int} {s:ByteArray} (h0:digs n=l++digs (tk s (m:Int).toNat)) (h:digs (tk s m)=(d:Int)::digs (tk s s0)) (e:((m:Int)-3).toNat=s0):
  digs n=(l++ [(d:Int)])++digs (tk s ((m:Int)-3).toNat):=by
 rw[h0,Int.toNat_natCast,h,e];simp
theorem digs_len_nb (n:Nat):(digs n).length≤(nb n).size:=by
 rw[digs_length_le];have h:=(nb_size_le (n:=n) (k:=(nb n).size)).1 (Nat.le_refl _)
 exact Nat.lt_of_lt_of_le h (Nat.pow_le_pow_left (by omega) _)
def u8(x:Int):UInt8:=UInt8.ofNat (x %256).toNat
theorem u8_toNat(x:Int):((u8 x).toNat:Int)=x %256:=by unfold u8;simp;omega
theorem number_step {l:List Int} {bs:List UInt8} {m:Nat} {z:Int} (hm:m<l.length) (hz:l[m]=z) (h0:0≤z) (h1:z<16777216) (h:(bval bs:Int)=dv (l.drop (m+1))):
  (bval (bs++ [u8 (z/65536),u8 (z/256),u8 z]):Int)=dv (l.drop m):=by
 rw[bval_append,List.drop_eq_getElem_cons hm,hz]
 simp only[dv,List.length_cons,List.length_nil,bval_cons,bval_nil,Int.natCast_add,Int.natCast_mul,u8_toNat,h]
 simp
 omega
theorem ofn_step {bs:List UInt8} {n m:Int} (hm:0≤m) (h:(bval bs:Int)=n/2^(m+8).toNat):
  (bval (bs++ [u8 (n/2^m.toNat %256)]):Int)=n/2^(m-8+8).toNat:=by
 have e:(m+8).toNat=m.toNat+8:=by omega
 rw[e,Int.pow_add,←Int.ediv_ediv_of_nonneg (by exact Int.le_of_lt (Int.pow_pos (by omega)))] at h
 rw[bval_snoc,Int.natCast_add,Int.natCast_mul,u8_toNat,h,show m-8+8=m by omega]
 generalize n/2^m.toNat=q
 omega
end Pl
namespace Pl
theorem bv_split (s:ByteArray) (m:Nat):tk s m*256^(s.size-m)≤bv s∧bv s<(tk s m+1)*256^(s.size-m):=by
 have e:s.data.toList=s.data.toList.take m++s.data.toList.drop m:=(List.take_append_drop m _).symm
 have h1:bv s=tk s m*256^(s.size-m)+bval (s.data.toList.drop m):=by
  unfold bv tk
  conv=>lhs;rw[e]
  rw[bval_append];simp
 have h2:=bval_lt (s.data.toList.drop m)
 have h3:(s.data.toList.drop m).length=s.size-m:=by simp
 rw[h3] at h2;rw[Nat.add_mul]
 omega
theorem size8{n:Nat}:(nb n).size≤8↔n<18446744073709551616:=nb_size_le
theorem size7{n:Nat}:(nb n).size≤7↔n<72057594037927936:=nb_size_le
theorem size4{n:Nat}:(nb n).size≤4↔n<4294967296:=nb_size_le
theorem size3{n:Nat}:(nb n).size≤3↔n<16777216:=nb_size_le
theorem top8 {n:Nat} (h:(nb n).size=8):(nb n)[0].toNat=n/72057594037927936:=by
 have h1:=bv_split (nb n) 1
 rw[tk_succ _ 0 (by omega),tk_zero,bv_nb,show(nb n).size-1=7 by omega] at h1
 simp at h1
 omega
theorem tkmul_lt {n k:Nat} (hn:n<9223372036854775808) (hk:k<(nb n).size):tk (nb n) k*256+(nb n)[k].toNat<9223372036854775808:=by
 rw[←tk_succ _ k hk];have h1:=(bv_split (nb n) (k+1)).1;rw[bv_nb] at h1
 have:0<256^((nb n).size-(k+1)):=Nat.pow_pos (by omega)
 have:=Nat.le_mul_of_pos_right (tk (nb n) (k+1)) this
 omega
end Pl
namespace Pl
theorem dv_take_succ {l:List Int} {k:Nat} (h:k<l.length):dv (l.take (k+1))=dv (l.take k)+16777216^k*l[k]:=by
 rw[List.take_succ_eq_append_getElem h,dv_snoc,List.length_take_of_le (by omega)]
theorem dv_split {l:List Int} {k:Nat} (h:k≤l.length):dv l=dv (l.take k)+16777216^k*dv (l.drop k):=by
 conv=>lhs;rw[←List.take_append_drop k l]
 rw[dv_append,List.length_take_of_le h]
def TI (u:List Int) (d:Int) (k:Nat) (out:List Int) (c:Int):Prop:=
  Dig out∧out.length=k∧0≤c∧c≤d∧dv out+16777216^k*c=dv (u.take k)*d
theorem TI.start(u:List Int){d:Int}(hd:0≤d):TI u d 0 [] 0:=⟨Dig.nil,rfl,by omega,hd,by simp[dv]⟩
theorem TI.bound {u:List Int} {d:Int} {k:Nat} {out:List Int} {c:Int} (h:TI u d k out c) (hu:Dig u) (hd:d<16777216) (hk:k<u.length):
  0≤u[k]*d∧u[k]*d≤281474943156225∧0≤u[k]*d+c∧u[k]*d+c<16777216*(d+1):=by
 obtain⟨_,_,h3,h4,_⟩:=h;have hb:=hu.get k hk
 have h1:0≤u[k]*d:=Int.mul_nonneg hb.1 (by omega)
 have h2:u[k]*d≤16777215*d:=Int.mul_le_mul_of_nonneg_right (by omega) (by omega)
 omega
theorem TI.succ {u:List Int} {d:Int} {k:Nat} {out:List Int} {c:Int} (h:TI u d k out c) (hu:Dig u) (hd:d<16777216) (hk:k<u.length):
  TI u d (k+1) (out++ [(u[k]*d+c)%16777216]) ((u[k]*d+c)/16777216):=by
 have hb:=h.bound hu hd hk;obtain⟨h1,h2,h3,h4,h5⟩:=h;generalize hs:u[k]*d+c=s at hb⊢
 refine⟨h1.snoc (by omega) (by omega),by simp[h2],by omega,by omega,?_⟩
 rw[dv_snoc,h2,dv_take_succ hk,Int.add_mul,←h5];have e:s %16777216+16777216*(s/16777216)=s:=Int.emod_add_mul_ediv s 16777216
 have e2:(16777216:Int)^(k+1)*(s/16777216)=16777216^k*(16777216*(s/16777216)):=by rw[Int.pow_succ];grind
 rw[e2]
 have e3:(16777216:Int)^k*(s %16777216)+16777216^k*(16777216*(s/16777216))=16777216^k*s:=by rw[←Int.mul_add,e]
 have e4:(16777216:Int)^k*u[k]*d+16777216^k*c=16777216^k*s:=by rw[←hs];grind
 omega
theorem TI.done {u:List Int} {d:Int} {out:List Int} {c:Int} (h:TI u d u.length out c) (hd:d<16777216):Dig (out++ [c])∧dv (out++ [c])=dv u*d:=by
 obtain⟨h1,h2,h3,h4,h5⟩:=h
 refine⟨h1.snoc h3 (by omega),?_⟩
 rw[dv_snoc,h2,h5,List.take_length]
def MI (u v:List Int) (k:Nat) (out:List Int) (b:Int):Prop:=
  Dig out∧out.length=k∧0≤b∧b≤1∧dv out-16777216^k*b=dv (u.take k)-dv (v.take k)
theorem MI.start(u v:List Int):MI u v 0 [] 0:=⟨Dig.nil,rfl,by omega,by omega,by simp[dv]⟩
def gd(v:List Int)(k:Nat):Int:=if h:k<v.length then v[k] else 0
theorem gd_lt{v:List Int}{k:Nat}(h:k<v.length):gd v k=v[k]:=by simp[gd,h]
theorem gd_ge{v:List Int}{k:Nat}(h: ¬k<v.length):gd v k=0:=by simp[gd,h]
theorem gd_bound {v:List Int} (hv:Dig v) (k:Nat):0≤gd v k∧gd v k<16777216:=by
 unfold gd;split
 ·exact hv.get k ‹_›
 ·omega
theorem dv_take_gd (v:List Int) (k:Nat):dv (v.take (k+1))=dv (v.take k)+16777216^k*gd v k:=by
 by_cases h:k<v.length
 ·rw[dv_take_succ h,gd_lt h]
 ·rw[gd_ge h,List.take_of_length_le (by omega),List.take_of_length_le (by omega)];simp
theorem MI.succ {u v:List Int} {k:Nat} {out:List Int} {b d b':Int} (h:MI u v k out b) (hk:k<u.length)
  (hd0:0≤d) (hd1:d<16777216) (hb0:0≤b') (hb1:b'≤1) (he:d-16777216*b'=u[k]-b-gd v k):MI u v (k+1) (out++ [d]) b':=by
 obtain⟨h1,h2,h3,h4,h5⟩:=h
 refine⟨h1.snoc hd0 hd1,by simp[h2],hb0,hb1,?_⟩
 rw[dv_snoc,h2,dv_take_succ hk,dv_take_gd]
 have e1:(16777216:Int)^(k+1)*b'=16777216^k*(16777216*b'):=by rw[Int.pow_succ];grind
 have e2:(16777216:Int)^k*d-16777216^k*(16777216*b')=16777216^k*u[k]-16777216^k*b-16777216^k*gd v k:=by
  rw[←Int.mul_sub,he];grind
 rw[e1]
 omega
theorem MI.done {u v:List Int} {out:List Int} {b:Int} (h:MI u v u.length out b) (hl:v.length≤u.length) (hle:dv v≤dv u):Dig out∧dv out=dv u-dv v:=by
 obtain⟨h1,h2,h3,h4,h5⟩:=h
 refine⟨h1,?_⟩
 rw[List.take_length,List.take_of_length_le hl] at h5;have h6:=dv_lt h1;rw[h2] at h6
 rcases(by omega:b=0∨b=1) with rfl|rfl
 ·omega
 ·omega
theorem cmp_len {a b:Nat} (h:(digs a).length<(digs b).length):a<b:=by
 rcases Nat.lt_or_ge a b with h1|h1
 ·exact h1
 ·have:b<16777216^(digs a).length:=Nat.lt_of_le_of_lt h1 (digs_length_le.1 (Nat.le_refl _))
  have:=digs_length_le.2 this
  omega
def CI(a b:Nat)(m:Nat):Prop:=(digs a).drop m=(digs b).drop m
theorem CI.start {a b:Nat} (h:(digs a).length=(digs b).length):CI a b (digs a).length:=by
 unfold CI;rw[List.drop_length,h,List.drop_length]
theorem CI.succ {a b m:Nat} (h:CI a b (m+1)) (ha:m<(digs a).length) (hb:m<(digs b).length) (he:(digs a)[m]=(digs b)[m]):CI a b m:=by
 unfold CI at*;rw[List.drop_eq_getElem_cons ha,List.drop_eq_getElem_cons hb,h,he]
theorem CI.done {a b:Nat} (h:CI a b 0):a=b:=by
 unfold CI at h;have h1:=dv_digs a;have h2:=dv_digs b
 simp only[List.drop_zero] at h
 rw[h,h2] at h1;omega
theorem CI.lt {a b m:Nat} (h:CI a b (m+1)) (ha:m<(digs a).length) (hb:m<(digs b).length) (he:(digs a)[m]<(digs b)[m]):a<b:=by
 unfold CI at h
 have h1:=dv_split (l:=digs a) (k:=m) (by omega)
 have h2:=dv_split (l:=digs b) (k:=m) (by omega)
 rw[dv_digs,List.drop_eq_getElem_cons ha,h] at h1;rw[dv_digs,List.drop_eq_getElem_cons hb] at h2
 simp only[dv] at h1 h2
 have h3:=dv_lt ((digs_dig a).take m);have h4:=dv_nonneg ((digs_dig b).take m)
 rw[List.length_take_of_le (by omega)] at h3
 generalize dv ((digs b).drop (m+1))=D at h1 h2;generalize (digs a)[m]=x at h1 he;generalize (digs b)[m]=y at h2 he
 have h5:(16777216:Int)^m*(x+16777216*D)+16777216^m≤16777216^m*(y+16777216*D):=by
  have:(16777216:Int)^m*(x+1+16777216*D)≤16777216^m*(y+16777216*D):=Int.mul_le_mul_of_nonneg_left (by omega) (Int.le_of_lt (pow_pos m))
  grind
 omega
theorem CI.symm{a b m:Nat}(h:CI a b m):CI b a m:=Eq.symm h
def CmpSays(a b:Nat)(z:Int):Prop:=(z<0∧a<b)∨(z=0∧a=b)∨(0<z∧b<a)
theorem cmp_diff {a b:Nat} {p q:Int} (h: ¬p=q) (h1:p<q→a<b) (h2:q<p→b<a):CmpSays a b (p-q):=by
 rcases Int.lt_or_gt_of_ne h with h3|h3
 ·exact .inl ⟨by omega,h1 h3⟩
 ·exact .inr (.inr ⟨by omega,h2 h3⟩)
theorem CmpSays.le{a b:Nat}{z:Int}(h:CmpSays a b z):z≤0↔a≤b:=by unfold CmpSays at h;omega
theorem CmpSays.ge{a b:Nat}{z:Int}(h:CmpSays a b z):0≤z↔b≤a:=by unfold CmpSays at h;omega
def DI(a b:Nat)(low high:Int):Prop:=0≤low∧low≤high∧high≤16777215∧(b:Int)*low≤a∧(a:Int)<b*(high+1)
theorem mul_digs_le (y x:Nat) (m:Int) (hm:0≤m):(dv (digs y)*m).toNat≤x↔(y:Int)*m≤x:=by
 rw[dv_digs]
 have:0≤(y:Int)*m:=Int.mul_nonneg (by omega) hm
 omega
theorem DI.start{a b:Nat}(h:a<b*16777216):DI a b 0 16777215:=⟨by omega,by omega,by omega,by simp,by omega⟩
theorem DI.up {a b:Nat} {low high m:Int} (h:DI a b low high) (h1:low≤m) (h2:m≤high) (h3:(b:Int)*m≤a):DI a b m high:=by
 obtain⟨a1,a2,a3,a4,a5⟩:=h;exact⟨by omega,h2,a3,h3,a5⟩
theorem DI.down {a b:Nat} {low high m:Int} (h:DI a b low high) (h1:low≤m-1) (h2:m≤high) (h3:(a:Int)<b*m):DI a b low (m-1):=by
 obtain⟨a1,a2,a3,a4,a5⟩:=h;exact⟨a1,h1,by omega,a4,by rw[show m-1+1=m by omega];exact h3⟩
theorem DI.done {a b:Nat} {low:Int} (hb:0<b) (h:DI a b low low):low=((a/b:Nat):Int):=by
 obtain⟨a1,a2,a3,a4,a5⟩:=h;obtain⟨m,rfl⟩:=Int.eq_ofNat_of_zero_le a1
 have h1:b*m≤a:=by exact_mod_cast a4
 have h2:a<b*(m+1):=by exact_mod_cast a5
 have:a/b=m:=by
  rw[Nat.div_eq_iff hb];rw[Nat.mul_add] at h2
  constructor
  ·rw[Nat.mul_comm];exact h1
  ·rw[Nat.mul_comm];omega
 rw[this]
end Pl
namespace Pl
def AI (u v:List Int) (k:Nat) (out:List Int) (c:Int):Prop:=
  Dig out∧out.length=k∧0≤c∧c≤1∧dv out+16777216^k*c=dv (u.take k)+dv (v.take k)∧(k≤u.length∨k≤v.length∨((k≤u.length+1∨k≤v.length+1)∧c=0))
theorem AI.start(u v:List Int):AI u v 0 [] 0:=⟨Dig.nil,rfl,by omega,by omega,by simp[dv],by omega⟩
theorem AI.succ {u v:List Int} {k:Nat} {out:List Int} {c:Int} (h:AI u v k out c) (hu:Dig u) (hv:Dig v) (hgo:k<u.length∨k<v.length∨0<c):
  AI u v (k+1) (out++ [(c+gd u k+gd v k)%16777216]) ((c+gd u k+gd v k)/16777216):=by
 obtain⟨h1,h2,h3,h4,h5,h6⟩:=h;have b1:=gd_bound hu k;have b2:=gd_bound hv k;have hz:(¬k<u.length→gd u k=0)∧(¬k<v.length→gd v k=0):=⟨gd_ge,gd_ge⟩
 refine⟨h1.snoc (by omega) (by omega),by simp[h2],by omega,by omega,?_,by omega⟩
 rw[dv_snoc,h2,dv_take_gd,dv_take_gd];generalize hs:c+gd u k+gd v k=s;have e:s %16777216+16777216*(s/16777216)=s:=Int.emod_add_mul_ediv s 16777216
 have e2:(16777216:Int)^(k+1)*(s/16777216)=16777216^k*(16777216*(s/16777216)):=by rw[Int.pow_succ];grind
 have e3:(16777216:Int)^k*(s %16777216)+16777216^k*(16777216*(s/16777216))=16777216^k*s:=by rw[←Int.mul_add,e]
 have e4:(16777216:Int)^k*c+16777216^k*gd u k+16777216^k*gd v k=16777216^k*s:=by rw[←hs];grind
 rw[e2]
 omega
theorem AI.done {u v:List Int} {k:Nat} {out:List Int} {c:Int} (h:AI u v k out c) (h1: ¬k<u.length) (h2: ¬k<v.length) (h3: ¬0<c):Dig out∧dv out=dv u+dv v:=by
 obtain⟨a1,a2,a3,a4,a5,a6⟩:=h
 refine⟨a1,?_⟩
 rw[List.take_of_length_le (by omega),List.take_of_length_le (by omega),show c=0 by omega] at a5
 omega
theorem digs_len_bv(s:ByteArray):(digs (bv s)).length≤s.size:=Nat.le_trans (digs_len_nb _) (nb_bv_size s)
end Pl
namespace Pl
theorem bytesLess_iff: ∀(x y:List UInt8),x.length=y.length→(Go.Op.bytesLess x y=true↔bval x<bval y)
 | [], [],_=>by simp[Go.Op.bytesLess,bval]
 | [],_::_,h=>by simp at h
 |_::_, [],h=>by simp at h
 | a::x,b::y,h=>by
  have hl:x.length=y.length:=by simpa using h
  have ih:=bytesLess_iff x y hl
  simp only[Go.Op.bytesLess,Bool.or_eq_true,Bool.and_eq_true,decide_eq_true_eq,beq_iff_eq,ih,bval_cons,hl]
  have hx:=bval_lt x;have hy:=bval_lt y;rw[hl] at hx;rw[UInt8.lt_iff_toNat_lt]
  constructor
  ·rintro (h1|⟨rfl,h2⟩)
   ·have:(a.toNat+1)*256^y.length≤b.toNat*256^y.length:=Nat.mul_le_mul_right _ h1
    rw[Nat.add_mul] at this
    omega
   ·omega
  ·intro h1
   rcases Nat.lt_trichotomy a.toNat b.toNat with h2|h2|h2
   ·exact .inl h2
   ·exact .inr ⟨UInt8.toNat_inj.1 h2,by rw[h2] at h1;omega⟩
   ·have:(b.toNat+1)*256^y.length≤a.toNat*256^y.length:=Nat.mul_le_mul_right _ h2
    rw[Nat.add_mul] at this
    omega
theorem nb_toList(n:Nat):(nb n).toList=enc n:=by rw[Go.ByteArray.toList_eq];rfl
theorem nb_size(n:Nat):(nb n).size=(enc n).length:=by simp[nb,ByteArray.size]
theorem nb_less {a b:Nat} (h:(nb a).size=(nb b).size):Go.Op.bytesLess (nb a).toList (nb b).toList=decide (a<b):=by
 rw[nb_size,nb_size] at h;rw[nb_toList,nb_toList];have:=bytesLess_iff _ _ h;rw[bval_enc,bval_enc] at this
 by_cases hab:a<b
 ·rw[this.2 hab];simp[hab]
 ·have hf:Go.Op.bytesLess (enc a) (enc b)≠true:=fun hh=>hab (this.1 hh)
  simp[hab];simpa using hf
theorem enc_inj{a b:Nat}(h:enc a=enc b):a=b:=by have:=congrArg bval h;rwa [bval_enc,bval_enc] at this
theorem nb_inj {a b:Nat} (h:nb a=nb b):a=b:=by
 have:(nb a).toList=(nb b).toList:=by rw[h]
 rw[nb_toList,nb_toList] at this;exact enc_inj this
theorem nb_eq {a b:Nat}:((nb a).toList==(nb b).toList)=decide (a=b):=by
 rw[nb_toList,nb_toList]
 by_cases h:a=b
 ·subst h;simp
 ·have:enc a≠enc b:=fun e=>h (enc_inj e)
  simp[h,this]
theorem nb_size_lt {a b:Nat} (h:(nb a).size<(nb b).size):a<b:=by
 rcases Nat.lt_or_ge a b with h1|h1
 ·exact h1
 ·have h2:a<256^(nb a).size:=nb_size_le.1 (Nat.le_refl _)
  have:=nb_size_le.2 (Nat.lt_of_le_of_lt h1 h2)
  omega
def cmpN(a b:Nat):Int:=if a<b then-1 else if b<a then 1 else 0
theorem cmpN_lt{a b:Nat}(h:a<b):cmpN a b= -1:=by simp[cmpN,h]
theorem cmpN_gt{a b:Nat}(h:b<a):cmpN a b=1:=by simp[cmpN,h];omega
theorem cmpN_eq{a b:Nat}(h:a=b):cmpN a b=0:=by simp[cmpN,h]
end Pl
namespace Pl
theorem dv_set: ∀(l:List Int) (k:Nat) (z:Int) (h:k<l.length),dv (l.set k z)=dv l+16777216^k*(z-l[k])
 | [],k,z,h=>by simp at h
 |d::l,0,z,_=>by simp[dv];omega
 |d::l,k+1,z,h=>by
  have ih:=dv_set l k z (by simpa using h)
  simp only[List.set_cons_succ,dv,ih,List.getElem_cons_succ,Int.pow_succ]
  grind
theorem Dig.set {l:List Int} (h:Dig l) (k:Nat) {z:Int} (h0:0≤z) (h1:z<16777216):Dig (l.set k z):=by
 intro x hx
 rcases List.mem_or_eq_of_mem_set hx with h2|rfl
 ·exact h x h2
 ·exact⟨h0,h1⟩
theorem dv_replicate (n:Nat):dv (List.replicate n 0)=0:=by
 induction n with
 |zero=>rfl
 |succ n ih=>simp[List.replicate_succ,dv,ih]
theorem Dig.replicate (n:Nat):Dig (List.replicate n 0):=by
 intro x hx;have:=List.eq_of_mem_replicate hx;omega
structure XI (u v:List Int) (i j:Nat) (x:Int) (out:List Int) (c:Int):Prop where
  dig:Dig out
  len:out.length=u.length+v.length
  c0:0≤c
  c1:c<16777216
  tail: ∀k (h:k<out.length),i+v.length≤k→out[k]=0
  val:dv out+16777216^(i+j)*c=dv (u.take i)*dv v+16777216^i*x*dv (v.take j)
theorem XI.start (u v:List Int) (x:Int):XI u v 0 0 x (List.replicate (u.length+v.length) 0) 0:=
 ⟨Dig.replicate _,by simp,by omega,by omega,by simp,by simp[dv,dv_replicate]⟩
theorem XI.bound {u v:List Int} {i j:Nat} {x y:Int} {out:List Int} {c:Int} (h:XI u v i j x out c) (hx0:0≤x) (hx1:x<16777216) (hy0:0≤y) (hy1:y<16777216) (hk:i+j<out.length):
  0≤out[i+j]∧out[i+j]<16777216∧0≤x*y∧x*y≤281474943156225∧0≤out[i+j]+x*y+c∧out[i+j]+x*y+c<281474976710656:=by
 have hb:=h.dig.get (i+j) hk;have h1:0≤x*y:=Int.mul_nonneg hx0 hy0
 have h2:x*y≤16777215*y:=Int.mul_le_mul_of_nonneg_right (by omega) hy0
 have:=h.c0;have:=h.c1
 omega
theorem XI.step {u v:List Int} {i j:Nat} {x y:Int} {out:List Int} {c:Int} (h:XI u v i j x out c) (hx0:0≤x) (hx1:x<16777216) (hj:j<v.length) (hy:v[j]=y) (hy0:0≤y) (hy1:y<16777216) (hk:i+j<out.length):
  XI u v i (j+1) x (out.set (i+j) ((out[i+j]+x*y+c)%16777216)) ((out[i+j]+x*y+c)/16777216):=by
 have hb:=h.bound hx0 hx1 hy0 hy1 hk
 refine⟨h.dig.set _ (by omega) (by omega),by simp[h.len],by omega,by omega,?_,?_⟩
 ·intro k hk1 hk2
  rw[List.getElem_set_ne (by omega)]
  exact h.tail k (by simpa using hk1) hk2
 ·rw[dv_set _ _ _ hk,dv_take_succ hj,hy]
  have hv:=h.val;generalize hs:out[i+j]+x*y+c=s at hb⊢;have e:s %16777216+16777216*(s/16777216)=s:=Int.emod_add_mul_ediv s 16777216
  have e2:(16777216:Int)^(i+(j+1))*(s/16777216)=16777216^(i+j)*(16777216*(s/16777216)):=by rw[←Nat.add_assoc,Int.pow_succ];grind
  have e3:(16777216:Int)^(i+j)*(s %16777216-out[i+j])+16777216^(i+j)*(16777216*(s/16777216))=16777216^(i+j)*(x*y+c):=by
   rw[←Int.mul_add];congr 1;omega
  have e4:(16777216:Int)^i*x*(dv (v.take j)+16777216^j*y)=16777216^i*x*dv (v.take j)+16777216^(i+j)*(x*y):=by rw[Int.pow_add];grind
  have e5:(16777216:Int)^(i+j)*(x*y+c)=16777216^(i+j)*(x*y)+16777216^(i+j)*c:=Int.mul_add _ _ _;rw[e2,e4]
  omega
theorem XI.next {u v:List Int} {i:Nat} {x x':Int} {out:List Int} {c:Int} (h:XI u v i v.length x out c) (hi:i<u.length) (hx:u[i]=x) (hk:i+v.length<out.length):
  XI u v (i+1) 0 x' (out.set (i+v.length) c) 0:=by
 refine⟨h.dig.set _ h.c0 h.c1,by simp[h.len],by omega,by omega,?_,?_⟩
 ·intro k hk1 hk2
  rw[List.getElem_set_ne (by omega)]
  exact h.tail k (by simpa using hk1) (by omega)
 ·rw[dv_set _ _ _ hk,h.tail _ hk (Nat.le_refl _),dv_take_succ hi,hx]
  have hv:=h.val;rw[List.take_length] at hv
  simp only[List.take_zero,dv,Int.mul_zero,Int.add_zero,Int.sub_zero]
  grind
theorem XI.done {u v:List Int} {x:Int} {out:List Int} {c:Int} (h:XI u v u.length 0 x out c) (hc:c=0):dv out=dv u*dv v:=by
 have hv:=h.val;rw[List.take_length,hc] at hv
 simpa [dv] using hv
end Pl
namespace Pl
structure QI (u:List Int) (V:Nat) (m:Nat) (quo:List Int) (r:Nat):Prop where
  dig:Dig quo
  len:quo.length=u.length
  lt:r<V
  zero: ∀k (h:k<quo.length),k<m→quo[k]=0
  val:dv (u.drop m)=dv (quo.drop m)*V+r
theorem QI.start (u:List Int) {V:Nat} (hV:0<V):QI u V u.length (List.replicate u.length 0) 0:=
 ⟨Dig.replicate _,by simp,hV,by simp,by simp[dv]⟩
theorem dv_cons_digs {z:Int} {r:Nat} (h0:0≤z):(dv (z::digs r)).toNat=z.toNat+16777216*r:=by
 simp only[dv,dv_digs];omega
theorem QI.lt' {u:List Int} {V m:Nat} {quo:List Int} {r:Nat} (h:QI u V m quo r) {z:Int} (h0:0≤z) (h1:z<16777216):z.toNat+16777216*r<V*16777216:=by
 have:=h.lt;omega
theorem drop_set_self (l:List Int) (k:Nat) (x:Int) (h:k<l.length):(l.set k x).drop k=x::l.drop (k+1):=by
 rw[List.drop_eq_getElem_cons (by simpa using h),List.getElem_set_self]
 congr 1
 rw[List.drop_set]
 simp
theorem QI.step {u:List Int} {V m:Nat} {quo:List Int} {r:Nat} {z:Int} (h:QI u V (m+1) quo r) (hm:m<u.length) (hz:u[m]=z) (h0:0≤z) (h1:z<16777216):
  QI u V m (quo.set m (((z.toNat+16777216*r)/V:Nat):Int)) ((z.toNat+16777216*r)%V):=by
 have hlt:=h.lt' h0 h1
 have hV:0<V:=by have:=h.lt;omega
 have hq:(z.toNat+16777216*r)/V<16777216:=by rw[Nat.div_lt_iff_lt_mul hV];omega
 refine⟨h.dig.set _ (Int.natCast_nonneg _) (Int.ofNat_lt.2 hq),by simp[h.len],Nat.mod_lt _ hV,?_,?_⟩
 ·intro k hk1 hk2
  rw[List.getElem_set_ne (by omega)]
  exact h.zero k (by simpa using hk1) (by omega)
 ·rw[drop_set_self _ _ _ (by rw[h.len];exact hm),List.drop_eq_getElem_cons hm,hz]
  simp only[dv]
  rw[h.val];generalize hN:z.toNat+16777216*r=N;have e:=Nat.div_add_mod N V
  have e':(N:Int)=V*((N/V:Nat):Int)+((N %V:Nat):Int):=by exact_mod_cast e.symm
  have e'':(N:Int)=z+16777216*r:=by omega
  grind
theorem QI.step0 {u:List Int} {V m:Nat} {quo:List Int} {r:Nat} {z:Int} (h:QI u V (m+1) quo r) (hm:m<u.length) (hz:u[m]=z) (h0:0≤z) (h1:z<16777216) (hs:z.toNat+16777216*r<V):
  QI u V m quo (z.toNat+16777216*r):=by
 have h2:=h.step hm hz h0 h1
 have hl:m<quo.length:=by rw[h.len];exact hm
 have e:quo.set m 0=quo:=by
  conv=>lhs;rw[←h.zero m hl (by omega)]
  exact List.set_getElem_self hl
 rw[Nat.div_eq_of_lt hs,Nat.mod_eq_of_lt hs] at h2
 simpa [e] using h2
theorem QI.done {u:List Int} {V:Nat} {quo:List Int} {r N:Nat} (h:QI u V 0 quo r) (hN:dv u=N):(dv quo).toNat=N/V∧r=N %V:=by
 have hv:=h.val
 simp only[List.drop_zero,hN] at hv
 have h0:=dv_nonneg h.dig;obtain⟨q,hq⟩:=Int.eq_ofNat_of_zero_le h0;rw[hq] at hv⊢
 have e:N=q*V+r:=by exact_mod_cast hv
 have hV:0<V:=by have:=h.lt;omega
 have hlt:=h.lt
 have e1:N/V=q:=by
  rw[e,Nat.mul_comm,Nat.mul_add_div hV,Nat.div_eq_of_lt hlt];omega
 have e2:N %V=r:=by
  rw[e,Nat.mul_comm,Nat.mul_add_mod,Nat.mod_eq_of_lt hlt]
 exact⟨by rw[e1];simp,e2.symm⟩
theorem rest_eq {N V:Nat}:((N:Int)-(dv (digs (dv (digs V)*((N/V:Nat):Int)).toNat))).toNat=N %V:=by
 rw[dv_digs,dv_digs];have e:=Nat.div_add_mod N V
 have e':(V:Int)*((N/V:Nat):Int)=((V*(N/V):Nat):Int):=by simp
 rw[e']
 omega
theorem mul_div_le {N V:Nat}:dv (digs (dv (digs V)*((N/V:Nat):Int)).toNat)≤(N:Int):=by
 rw[dv_digs,dv_digs];have e:=Nat.div_add_mod N V
 have e':(V:Int)*((N/V:Nat):Int)=((V*(N/V):Nat):Int):=by simp
 rw[e']
 omega
theorem digs_len_mono {a b:Nat} (h:a≤b):(digs a).length≤(digs b).length:=by
 rcases Nat.lt_or_ge (digs b).length (digs a).length with h1|h1
 ·have:=cmp_len h1;omega
 ·exact h1
theorem lt_mul_pow (N V b k:Nat) (h:N<V*b) (h':V<b^k):N<b^(k+1):=by
 rw[Nat.pow_succ]
 exact Nat.lt_of_lt_of_le h (Nat.mul_le_mul_right _ (Nat.le_of_lt h'))
theorem digs_len_mul {N V:Nat} (h:N<V*16777216):(digs N).length≤(digs V).length+1:=
 digs_length_le.2 (lt_mul_pow N V 16777216 _ h (digs_length_le.1 (Nat.le_refl (digs V).length)))
end Pl
namespace Pl
theorem nb_size_mono {a b:Nat} (h:a≤b):(nb a).size≤(nb b).size:=
 nb_size_le.2 (Nat.lt_of_le_of_lt h (nb_size_le.1 (Nat.le_refl _)))
theorem tmod_bd (n:Int) {m:Int} (hm:0<m): -m<n.tmod m∧n.tmod m<m:=by
 have h1:=Int.tmod_lt_of_pos n hm;have h2:=Int.lt_tmod_of_pos n hm
 omega
end Pl
namespace W
open Pl
def dv:List Int→Int
  | []=>0
  |d::l=>d+4294967296*dv l
def Dig(l:List Int):Prop:= ∀d∈l,0≤d∧d<4294967296
theorem Dig.nil:Dig []:=by intro d h;cases h
theorem Dig.cons {d:Int} {l:List Int} (h0:0≤d) (h1:d<4294967296) (h:Dig l):Dig (d::l):=by
 intro x hx;rcases List.mem_cons.1 hx with rfl|hx
 ·exact⟨h0,h1⟩
 ·exact h x hx
theorem Dig.tail{d:Int}{l:List Int}(h:Dig (d::l)):Dig l:=fun x hx=>h x (List.mem_cons_of_mem _ hx)
theorem Dig.head{d:Int}{l:List Int}(h:Dig (d::l)):0≤d∧d<4294967296:=h d (List.mem_cons_self)
theorem Dig.append {s t:List Int} (hs:Dig s) (ht:Dig t):Dig (s++t):=by
 intro x hx;rcases List.mem_append.1 hx with h|h
 ·exact hs x h
 ·exact ht x h
theorem Dig.snoc{s:List Int}{d:Int}(hs:Dig s)(h0:0≤d)(h1:d<4294967296):Dig (s++ [d]):=hs.append (Dig.cons h0 h1 Dig.nil)
theorem Dig.take{l:List Int}(h:Dig l)(k:Nat):Dig (l.take k):=fun x hx=>h x (List.mem_of_mem_take hx)
theorem Dig.drop{l:List Int}(h:Dig l)(k:Nat):Dig (l.drop k):=fun x hx=>h x (List.mem_of_mem_drop hx)
theorem Dig.get{l:List Int}(h:Dig l)(k:Nat)(hk:k<l.length):0≤l[k]∧l[k]<4294967296:=h _ (List.getElem_mem hk)
theorem dv_append (s t:List Int):dv (s++t)=dv s+4294967296^s.length*dv t:=by
 induction s with
 |nil=>simp[dv]
 |cons d l ih=>simp only[List.cons_append,dv,ih,List.length_cons];grind
theorem dv_snoc(s:List Int)(d:Int):dv (s++ [d])=dv s+4294967296^s.length*d:=by rw[dv_append];simp[dv]
theorem dv_nonneg {l:List Int} (h:Dig l):0≤dv l:=by
 induction l with
 |nil=>simp[dv]
 |cons d l ih=>have:=ih h.tail;have:=h.head;simp only[dv];omega
theorem pow_pos(k:Nat):(0:Int)<4294967296^k:=Int.pow_pos (by omega)
theorem dv_lt {l:List Int} (h:Dig l):dv l<4294967296^l.length:=by
 induction l with
 |nil=>simp[dv]
 |cons d l ih=>have:=ih h.tail;have:=h.head;simp only[dv,List.length_cons,Int.pow_succ];omega
def digs(n:Nat):List Int:=if n=0 then [] else((n %4294967296:Nat):Int)::digs (n/4294967296)
termination_by n
decreasing_by omega
theorem digs_zero:digs 0= []:=by rw[digs];simp
theorem digs_pos{n:Nat}(h:n≠0):digs n=((n %4294967296:Nat):Int)::digs (n/4294967296):=by rw[digs];simp[h]
theorem digs_dig (n:Nat):Dig (digs n):=by
 induction n using Nat.strongRecOn with
 |_ n ih=>
  by_cases h:n=0
  ·subst h;rw[digs_zero];exact Dig.nil
  ·rw[digs_pos h];exact Dig.cons (by omega) (by omega) (ih _ (by omega))
theorem dv_digs (n:Nat):dv (digs n)=n:=by
 induction n using Nat.strongRecOn with
 |_ n ih=>
  by_cases h:n=0
  ·subst h;rw[digs_zero];rfl
  ·rw[digs_pos h];simp only[dv];rw[ih _ (by omega)];omega
def Trim(l:List Int):Prop:= ∀h:l≠ [],l.getLast h≠0
theorem digs_dv {l:List Int} (hd:Dig l) (ht:Trim l):digs (dv l).toNat=l:=by
 induction l with
 |nil=>simp[dv,digs_zero]
 | cons d l ih=>
  have h0:=hd.head;have hn:=dv_nonneg hd.tail
  by_cases hl:l= []
  ·subst hl
   have:=ht (by simp);simp at this
   have hne:(dv [d]).toNat≠0:=by simp[dv];omega
   rw[digs_pos hne]
   have e1:(dv [d]).toNat=d.toNat:=by simp[dv]
   rw[e1,show d.toNat/4294967296=0 by omega,digs_zero]
   congr 1;omega
  ·have ht':Trim l:=by
    intro h;have:=ht (by simp);rwa [List.getLast_cons h] at this
   have ih':=ih hd.tail ht'
   have hpos:dv l≠0:=by
    intro hz;rw[hz] at ih';simp[digs_zero] at ih';exact hl ih'
   have hne:(dv (d::l)).toNat≠0:=by simp only[dv];omega
   rw[digs_pos hne]
   have e1:(dv (d::l)).toNat/4294967296=(dv l).toNat:=by simp only[dv];omega
   rw[e1,ih']
   congr 1
   simp only[dv];omega
theorem trim_digs (n:Nat):Trim (digs n):=by
 induction n using Nat.strongRecOn with
 | _ n ih=>
  by_cases h:n=0
  ·subst h;rw[digs_zero];intro h;exact absurd rfl h
  ·intro hne
   have ih':=ih (n/4294967296) (by omega)
   by_cases hl:digs (n/4294967296)= []
   ·have hz:n/4294967296=0:=by have:=dv_digs (n/4294967296);rw[hl] at this;simp[dv] at this;omega
    have e:digs n= [((n %4294967296:Nat):Int)]:=by rw[digs_pos h,hl]
    simp only[e,List.getLast_singleton];omega
   ·have:=ih' hl
    have e:=digs_pos h
    have:(digs n).getLast hne=(digs (n/4294967296)).getLast hl:=by
     simp only[e];rw[List.getLast_cons hl]
    rw[this];assumption
theorem digs_eq_nil {n:Nat}:digs n= []↔n=0:=by
 constructor
 ·intro h;have:=dv_digs n;rw[h] at this;simp[dv] at this;omega
 ·rintro rfl;exact digs_zero
theorem digs_length_le {n k:Nat}:(digs n).length≤k↔n<4294967296^k:=by
  constructor
  · intro h
    have h1:=dv_lt (digs_dig n);rw[dv_digs] at h1
    have h2:(4294967296:Nat)^(digs n).length≤4294967296^k:=Nat.pow_le_pow_right (by omega) h
    have h3:((4294967296:Nat)^(digs n).length:Nat)=((4294967296:Int)^(digs n).length):=by simp
    omega
  · induction k generalizing n with
    | zero => intro h;have:n=0:=by simpa using h
              subst this;simp[digs_zero]
    | succ k ih=>
      intro h
      by_cases hn:n=0
      ·subst hn;simp[digs_zero]
      · rw[digs_pos hn];simp only[List.length_cons]
        have:=ih (n:=n/4294967296) (by rw[Nat.pow_succ] at h;omega)
        omega
theorem trim_zero {l:List Int} (hz:dv (l.take 0)=dv l):l.take 0=digs (dv l).toNat:=by
 simp[dv] at hz;simp[←hz,digs_zero]
theorem trim_succ {l:List Int} {n:Nat} (hn:n<l.length) (hz:dv (l.take (n+1))=dv l) (h:(l[n]==0)=true):dv (l.take n)=dv l:=by
 rw[←hz,List.take_succ_eq_append_getElem hn,dv_snoc]
 have:l[n]=0:=by simpa using h
 rw[this];simp
theorem getLast_snoc(t:List Int)(x:Int)(h:t++ [x]≠ []):(t++ [x]).getLast h=x:=by simp
theorem trim_stop {l:List Int} {n:Nat} (hd:Dig l) (hn:n<l.length) (hz:dv (l.take (n+1))=dv l) (h:(l[n]==0)=false):l.take (n+1)=digs (dv l).toNat:=by
 rw[←hz,digs_dv (hd.take _)]
 have key: ∀(m:List Int) (hm:m≠ []),m=l.take n++ [l[n]]→m.getLast hm≠0:=by
  intro m hm e;subst e;rw[getLast_snoc];simpa using h
 intro h0
 exact key _ h0 (List.take_succ_eq_append_getElem hn)
def Mid(s:ByteArray)(s0 k d:Nat):Prop:=tk s k=tk s s0*256^(k-s0)+d∧d<256^(k-s0)
theorem Mid.start(s:ByteArray)(s0:Nat):Mid s s0 s0 0:=by simp[Mid]
theorem Mid.succ {s:ByteArray} {s0 k d:Nat} (h:Mid s s0 k d) (h0:s0≤k) (hk:k<s.size):Mid s s0 (k+1) (d*256+s[k].toNat):=by
 obtain⟨h1,h2⟩:=h
 have e:k+1-s0=(k-s0)+1:=by omega
 have hb:=s[k].toNat_lt
 refine⟨?_,?_⟩
 ·rw[tk_succ s k hk,h1,e,Nat.pow_succ];grind
 ·rw[e,Nat.pow_succ];omega
theorem Mid.lt {s:ByteArray} {s0 k d:Nat} (h:Mid s s0 k d) (hk:k<s0+4):d<16777216:=by
 have h2:=h.2
 have:(256:Nat)^(k-s0)≤256^3:=Nat.pow_le_pow_right (by omega) (by omega)
 omega
theorem Mid.lt' {s:ByteArray} {s0 k d:Nat} (h:Mid s s0 k d) (hk:k≤s0+4):d<4294967296:=by
 have h2:=h.2
 have:(256:Nat)^(k-s0)≤256^4:=Nat.pow_le_pow_right (by omega) (by omega)
 omega
theorem Mid.done {s:ByteArray} {s0 m d:Nat} (h:Mid s s0 m d) (hs:s0=m-4) (hp:tk s m≠0):digs (tk s m)=(d:Int)::digs (tk s s0):=by
 obtain⟨h1,h2⟩:=h
 by_cases h3:4≤m
 ·have e:m-s0=4:=by omega
  rw[e] at h1 h2;rw[digs_pos hp]
  have a1:tk s m %4294967296=d:=by omega
  have a2:tk s m/4294967296=tk s s0:=by omega
  rw[a1,a2]
 ·have e:s0=0:=by omega
  subst e;rw[tk_zero] at h1⊢
  have:(256:Nat)^(m-0)≤256^4:=Nat.pow_le_pow_right (by omega) (by omega)
  rw[digs_pos hp]
  have a1:tk s m %4294967296=d:=by omega
  have a2:tk s m/4294967296=0:=by omega
  rw[a1,a2]
theorem of_step {n m s0 d:Nat} {l:List Int} {s:ByteArray} (h0:digs n=l++digs (tk s (m:Int).toNat)) (h:digs (tk s m)=(d:Int)::digs (tk s s0)) (e:((m:Int)-4).toNat=s0):
  digs n=(l++ [(d:Int)])++digs (tk s ((m:Int)-4).toNat):=by
 rw[h0,Int.toNat_natCast,h,e];simp
theorem digs_len_nb (n:Nat):(digs n).length≤(nb n).size:=by
 rw[digs_length_le];have h:=(nb_size_le (n:=n) (k:=(nb n).size)).1 (Nat.le_refl _)
 exact Nat.lt_of_lt_of_le h (Nat.pow_le_pow_left (by omega) _)
theorem number_step {l:List Int} {bs:List UInt8} {m:Nat} {z:Int} (hm:m<l.length) (hz:l[m]=z) (h0:0≤z) (h1:z<4294967296) (h:(bval bs:Int)=dv (l.drop (m+1))):
  (bval (bs++ [u8 (z/16777216),u8 (z/65536),u8 (z/256),u8 z]):Int)=dv (l.drop m):=by
 rw[bval_append,List.drop_eq_getElem_cons hm,hz]
 simp only[dv,List.length_cons,List.length_nil,bval_cons,bval_nil,Int.natCast_add,Int.natCast_mul,u8_toNat,h]
 simp
 omega
theorem dv_take_succ {l:List Int} {k:Nat} (h:k<l.length):dv (l.take (k+1))=dv (l.take k)+4294967296^k*l[k]:=by
 rw[List.take_succ_eq_append_getElem h,dv_snoc,List.length_take_of_le (by omega)]
theorem dv_split {l:List Int} {k:Nat} (h:k≤l.length):dv l=dv (l.take k)+4294967296^k*dv (l.drop k):=by
 conv=>lhs;rw[←List.take_append_drop k l]
 rw[dv_append,List.length_take_of_le h]
def MI (u v:List Int) (k:Nat) (out:List Int) (b:Int):Prop:=
  Dig out∧out.length=k∧0≤b∧b≤1∧dv out-4294967296^k*b=dv (u.take k)-dv (v.take k)
theorem MI.start(u v:List Int):MI u v 0 [] 0:=⟨Dig.nil,rfl,by omega,by omega,by simp[dv]⟩
def gd(v:List Int)(k:Nat):Int:=if h:k<v.length then v[k] else 0
theorem gd_lt{v:List Int}{k:Nat}(h:k<v.length):gd v k=v[k]:=by simp[gd,h]
theorem gd_ge{v:List Int}{k:Nat}(h: ¬k<v.length):gd v k=0:=by simp[gd,h]
theorem gd_bound {v:List Int} (hv:Dig v) (k:Nat):0≤gd v k∧gd v k<4294967296:=by
 unfold gd;split
 ·exact hv.get k ‹_›
 ·omega
theorem dv_take_gd (v:List Int) (k:Nat):dv (v.take (k+1))=dv (v.take k)+4294967296^k*gd v k:=by
 by_cases h:k<v.length
 ·rw[dv_take_succ h,gd_lt h]
 ·rw[gd_ge h,List.take_of_length_le (by omega),List.take_of_length_le (by omega)];simp
theorem MI.succ {u v:List Int} {k:Nat} {out:List Int} {b d b':Int} (h:MI u v k out b) (hk:k<u.length)
  (hd0:0≤d) (hd1:d<4294967296) (hb0:0≤b') (hb1:b'≤1) (he:d-4294967296*b'=u[k]-b-gd v k):MI u v (k+1) (out++ [d]) b':=by
 obtain⟨h1,h2,h3,h4,h5⟩:=h
 refine⟨h1.snoc hd0 hd1,by simp[h2],hb0,hb1,?_⟩
 rw[dv_snoc,h2,dv_take_succ hk,dv_take_gd]
 have e1:(4294967296:Int)^(k+1)*b'=4294967296^k*(4294967296*b'):=by rw[Int.pow_succ];grind
 have e2:(4294967296:Int)^k*d-4294967296^k*(4294967296*b')=4294967296^k*u[k]-4294967296^k*b-4294967296^k*gd v k:=by
  rw[←Int.mul_sub,he];grind
 rw[e1]
 omega
theorem MI.done {u v:List Int} {out:List Int} {b:Int} (h:MI u v u.length out b) (hl:v.length≤u.length) (hle:dv v≤dv u):Dig out∧dv out=dv u-dv v:=by
 obtain⟨h1,h2,h3,h4,h5⟩:=h
 refine⟨h1,?_⟩
 rw[List.take_length,List.take_of_length_le hl] at h5;have h6:=dv_lt h1;rw[h2] at h6
 rcases(by omega:b=0∨b=1) with rfl|rfl
 ·omega
 ·omega
theorem cmp_len {a b:Nat} (h:(digs a).length<(digs b).length):a<b:=by
 rcases Nat.lt_or_ge a b with h1|h1
 ·exact h1
 ·have:b<4294967296^(digs a).length:=Nat.lt_of_le_of_lt h1 (digs_length_le.1 (Nat.le_refl _))
  have:=digs_length_le.2 this
  omega
def CI(a b:Nat)(m:Nat):Prop:=(digs a).drop m=(digs b).drop m
theorem CI.start {a b:Nat} (h:(digs a).length=(digs b).length):CI a b (digs a).length:=by
 unfold CI;rw[List.drop_length,h,List.drop_length]
theorem CI.succ {a b m:Nat} (h:CI a b (m+1)) (ha:m<(digs a).length) (hb:m<(digs b).length) (he:(digs a)[m]=(digs b)[m]):CI a b m:=by
 unfold CI at*;rw[List.drop_eq_getElem_cons ha,List.drop_eq_getElem_cons hb,h,he]
theorem CI.done {a b:Nat} (h:CI a b 0):a=b:=by
 unfold CI at h;have h1:=dv_digs a;have h2:=dv_digs b
 simp only[List.drop_zero] at h
 rw[h,h2] at h1;omega
theorem CI.lt {a b m:Nat} (h:CI a b (m+1)) (ha:m<(digs a).length) (hb:m<(digs b).length) (he:(digs a)[m]<(digs b)[m]):a<b:=by
 unfold CI at h
 have h1:=dv_split (l:=digs a) (k:=m) (by omega)
 have h2:=dv_split (l:=digs b) (k:=m) (by omega)
 rw[dv_digs,List.drop_eq_getElem_cons ha,h] at h1;rw[dv_digs,List.drop_eq_getElem_cons hb] at h2
 simp only[dv] at h1 h2
 have h3:=dv_lt ((digs_dig a).take m);have h4:=dv_nonneg ((digs_dig b).take m)
 rw[List.length_take_of_le (by omega)] at h3
 generalize dv ((digs b).drop (m+1))=D at h1 h2;generalize (digs a)[m]=x at h1 he;generalize (digs b)[m]=y at h2 he
 have h5:(4294967296:Int)^m*(x+4294967296*D)+4294967296^m≤4294967296^m*(y+4294967296*D):=by
  have:(4294967296:Int)^m*(x+1+4294967296*D)≤4294967296^m*(y+4294967296*D):=Int.mul_le_mul_of_nonneg_left (by omega) (Int.le_of_lt (pow_pos m))
  grind
 omega
theorem CI.symm{a b m:Nat}(h:CI a b m):CI b a m:=Eq.symm h
def CmpSays(a b:Nat)(z:Int):Prop:=(z<0∧a<b)∨(z=0∧a=b)∨(0<z∧b<a)
theorem cmp_diff {a b:Nat} {p q:Int} (h: ¬p=q) (h1:p<q→a<b) (h2:q<p→b<a):CmpSays a b (p-q):=by
 rcases Int.lt_or_gt_of_ne h with h3|h3
 ·exact .inl ⟨by omega,h1 h3⟩
 ·exact .inr (.inr ⟨by omega,h2 h3⟩)
theorem CmpSays.le{a b:Nat}{z:Int}(h:CmpSays a b z):z≤0↔a≤b:=by unfold CmpSays at h;omega
theorem CmpSays.ge{a b:Nat}{z:Int}(h:CmpSays a b z):0≤z↔b≤a:=by unfold CmpSays at h;omega
theorem digs_len_bv(s:ByteArray):(digs (bv s)).length≤s.size:=Nat.le_trans (digs_len_nb _) (nb_bv_size s)
theorem dv_set: ∀(l:List Int) (k:Nat) (z:Int) (h:k<l.length),dv (l.set k z)=dv l+4294967296^k*(z-l[k])
 | [],k,z,h=>by simp at h
 |d::l,0,z,_=>by simp[dv];omega
 |d::l,k+1,z,h=>by
  have ih:=dv_set l k z (by simpa using h)
  simp only[List.set_cons_succ,dv,ih,List.getElem_cons_succ,Int.pow_succ]
  grind
theorem Dig.set {l:List Int} (h:Dig l) (k:Nat) {z:Int} (h0:0≤z) (h1:z<4294967296):Dig (l.set k z):=by
 intro x hx
 rcases List.mem_or_eq_of_mem_set hx with h2|rfl
 ·exact h x h2
 ·exact⟨h0,h1⟩
theorem dv_replicate (n:Nat):dv (List.replicate n 0)=0:=by
 induction n with
 |zero=>rfl
 |succ n ih=>simp[List.replicate_succ,dv,ih]
theorem Dig.replicate (n:Nat):Dig (List.replicate n 0):=by
 intro x hx;have:=List.eq_of_mem_replicate hx;omega
structure XI (u v:List Int) (i j:Nat) (x:Int) (out:List Int) (c:Int):Prop where
  dig:Dig out
  len:out.length=u.length+v.length
  c0:0≤c
  c1:c<4294967296
  tail: ∀k (h:k<out.length),i+v.length≤k→out[k]=0
  val:dv out+4294967296^(i+j)*c=dv (u.take i)*dv v+4294967296^i*x*dv (v.take j)
theorem XI.start (u v:List Int) (x:Int):XI u v 0 0 x (List.replicate (u.length+v.length) 0) 0:=
 ⟨Dig.replicate _,by simp,by omega,by omega,by simp,by simp[dv,dv_replicate]⟩
theorem XI.bound {u v:List Int} {i j:Nat} {x y:Int} {out:List Int} {c:Int} (h:XI u v i j x out c) (hx0:0≤x) (hx1:x<4294967296) (hy0:0≤y) (hy1:y<4294967296) (hk:i+j<out.length):
  0≤out[i+j]∧out[i+j]<4294967296∧0≤x*y∧x*y≤18446744065119617025∧0≤out[i+j]+x*y+c∧out[i+j]+x*y+c<18446744073709551616:=by
 have hb:=h.dig.get (i+j) hk;have h1:0≤x*y:=Int.mul_nonneg hx0 hy0
 have h2:x*y≤4294967295*y:=Int.mul_le_mul_of_nonneg_right (by omega) hy0
 have:=h.c0;have:=h.c1
 omega
theorem XI.step {u v:List Int} {i j:Nat} {x y:Int} {out:List Int} {c:Int} (h:XI u v i j x out c) (hx0:0≤x) (hx1:x<4294967296) (hj:j<v.length) (hy:v[j]=y) (hy0:0≤y) (hy1:y<4294967296) (hk:i+j<out.length):
  XI u v i (j+1) x (out.set (i+j) ((out[i+j]+x*y+c)%4294967296)) ((out[i+j]+x*y+c)/4294967296):=by
 have hb:=h.bound hx0 hx1 hy0 hy1 hk
 refine⟨h.dig.set _ (by omega) (by omega),by simp[h.len],by omega,by omega,?_,?_⟩
 ·intro k hk1 hk2
  rw[List.getElem_set_ne (by omega)]
  exact h.tail k (by simpa using hk1) hk2
 ·rw[dv_set _ _ _ hk,dv_take_succ hj,hy]
  have hv:=h.val;generalize hs:out[i+j]+x*y+c=s at hb⊢;have e:s %4294967296+4294967296*(s/4294967296)=s:=Int.emod_add_mul_ediv s 4294967296
  have e2:(4294967296:Int)^(i+(j+1))*(s/4294967296)=4294967296^(i+j)*(4294967296*(s/4294967296)):=by rw[←Nat.add_assoc,Int.pow_succ];grind
  have e3:(4294967296:Int)^(i+j)*(s %4294967296-out[i+j])+4294967296^(i+j)*(4294967296*(s/4294967296))=4294967296^(i+j)*(x*y+c):=by
   rw[←Int.mul_add];congr 1;omega
  have e4:(4294967296:Int)^i*x*(dv (v.take j)+4294967296^j*y)=4294967296^i*x*dv (v.take j)+4294967296^(i+j)*(x*y):=by rw[Int.pow_add];grind
  have e5:(4294967296:Int)^(i+j)*(x*y+c)=4294967296^(i+j)*(x*y)+4294967296^(i+j)*c:=Int.mul_add _ _ _;rw[e2,e4]
  omega
theorem XI.next {u v:List Int} {i:Nat} {x x':Int} {out:List Int} {c:Int} (h:XI u v i v.length x out c) (hi:i<u.length) (hx:u[i]=x) (hk:i+v.length<out.length):
  XI u v (i+1) 0 x' (out.set (i+v.length) c) 0:=by
 refine⟨h.dig.set _ h.c0 h.c1,by simp[h.len],by omega,by omega,?_,?_⟩
 ·intro k hk1 hk2
  rw[List.getElem_set_ne (by omega)]
  exact h.tail k (by simpa using hk1) (by omega)
 ·rw[dv_set _ _ _ hk,h.tail _ hk (Nat.le_refl _),dv_take_succ hi,hx]
  have hv:=h.val;rw[List.take_length] at hv
  simp only[List.take_zero,dv,Int.mul_zero,Int.add_zero,Int.sub_zero]
  grind
theorem XI.done {u v:List Int} {x:Int} {out:List Int} {c:Int} (h:XI u v u.length 0 x out c) (hc:c=0):dv out=dv u*dv v:=by
 have hv:=h.val;rw[List.take_length,hc] at hv
 simpa [dv] using hv
structure QI (u:List Int) (V:Nat) (m:Nat) (quo:List Int) (r:Nat):Prop where
  dig:Dig quo
  len:quo.length=u.length
  lt:r<V
  zero: ∀k (h:k<quo.length),k<m→quo[k]=0
  val:dv (u.drop m)=dv (quo.drop m)*V+r
theorem QI.start (u:List Int) {V:Nat} (hV:0<V):QI u V u.length (List.replicate u.length 0) 0:=
 ⟨Dig.replicate _,by simp,hV,by simp,by simp[dv]⟩
theorem dv_cons_digs {z:Int} {r:Nat} (h0:0≤z):(dv (z::digs r)).toNat=z.toNat+4294967296*r:=by
 simp only[dv,dv_digs];omega
theorem QI.lt' {u:List Int} {V m:Nat} {quo:List Int} {r:Nat} (h:QI u V m quo r) {z:Int} (h0:0≤z) (h1:z<4294967296):z.toNat+4294967296*r<V*4294967296:=by
 have:=h.lt;omega
theorem drop_set_self (l:List Int) (k:Nat) (x:Int) (h:k<l.length):(l.set k x).drop k=x::l.drop (k+1):=by
 rw[List.drop_eq_getElem_cons (by simpa using h),List.getElem_set_self]
 congr 1
 rw[List.drop_set]
 simp
theorem QI.step {u:List Int} {V m:Nat} {quo:List Int} {r:Nat} {z:Int} (h:QI u V (m+1) quo r) (hm:m<u.length) (hz:u[m]=z) (h0:0≤z) (h1:z<4294967296):
  QI u V m (quo.set m (((z.toNat+4294967296*r)/V:Nat):Int)) ((z.toNat+4294967296*r)%V):=by
 have hlt:=h.lt' h0 h1
 have hV:0<V:=by have:=h.lt;omega
 have hq:(z.toNat+4294967296*r)/V<4294967296:=by rw[Nat.div_lt_iff_lt_mul hV];omega
 refine⟨h.dig.set _ (Int.natCast_nonneg _) (Int.ofNat_lt.2 hq),by simp[h.len],Nat.mod_lt _ hV,?_,?_⟩
 ·intro k hk1 hk2
  rw[List.getElem_set_ne (by omega)]
  exact h.zero k (by simpa using hk1) (by omega)
 ·rw[drop_set_self _ _ _ (by rw[h.len];exact hm),List.drop_eq_getElem_cons hm,hz]
  simp only[dv]
  rw[h.val];generalize hN:z.toNat+4294967296*r=N;have e:=Nat.div_add_mod N V
  have e':(N:Int)=V*((N/V:Nat):Int)+((N %V:Nat):Int):=by exact_mod_cast e.symm
  have e'':(N:Int)=z+4294967296*r:=by omega
  grind
theorem QI.step0 {u:List Int} {V m:Nat} {quo:List Int} {r:Nat} {z:Int} (h:QI u V (m+1) quo r) (hm:m<u.length) (hz:u[m]=z) (h0:0≤z) (h1:z<4294967296) (hs:z.toNat+4294967296*r<V):
  QI u V m quo (z.toNat+4294967296*r):=by
 have h2:=h.step hm hz h0 h1
 have hl:m<quo.length:=by rw[h.len];exact hm
 have e:quo.set m 0=quo:=by
  conv=>lhs;rw[←h.zero m hl (by omega)]
  exact List.set_getElem_self hl
 rw[Nat.div_eq_of_lt hs,Nat.mod_eq_of_lt hs] at h2
 simpa [e] using h2
theorem QI.done {u:List Int} {V:Nat} {quo:List Int} {r N:Nat} (h:QI u V 0 quo r) (hN:dv u=N):(dv quo).toNat=N/V∧r=N %V:=by
 have hv:=h.val
 simp only[List.drop_zero,hN] at hv
 have h0:=dv_nonneg h.dig;obtain⟨q,hq⟩:=Int.eq_ofNat_of_zero_le h0;rw[hq] at hv⊢
 have e:N=q*V+r:=by exact_mod_cast hv
 have hV:0<V:=by have:=h.lt;omega
 have hlt:=h.lt
 have e1:N/V=q:=by
  rw[e,Nat.mul_comm,Nat.mul_add_div hV,Nat.div_eq_of_lt hlt];omega
 have e2:N %V=r:=by
  rw[e,Nat.mul_comm,Nat.mul_add_mod,Nat.mod_eq_of_lt hlt]
 exact⟨by rw[e1];simp,e2.symm⟩
theorem rest_eq {N V:Nat}:((N:Int)-(dv (digs (dv (digs V)*((N/V:Nat):Int)).toNat))).toNat=N %V:=by
 rw[dv_digs,dv_digs];have e:=Nat.div_add_mod N V
 have e':(V:Int)*((N/V:Nat):Int)=((V*(N/V):Nat):Int):=by simp
 rw[e']
 omega
theorem mul_div_le {N V:Nat}:dv (digs (dv (digs V)*((N/V:Nat):Int)).toNat)≤(N:Int):=by
 rw[dv_digs,dv_digs];have e:=Nat.div_add_mod N V
 have e':(V:Int)*((N/V:Nat):Int)=((V*(N/V):Nat):Int):=by simp
 rw[e']
 omega
theorem digs_len_mono {a b:Nat} (h:a≤b):(digs a).length≤(digs b).length:=by
 rcases Nat.lt_or_ge (digs b).length (digs a).length with h1|h1
 ·have:=cmp_len h1;omega
 ·exact h1
theorem lt_mul_pow (N V b k:Nat) (h:N<V*b) (h':V<b^k):N<b^(k+1):=by
 rw[Nat.pow_succ]
 exact Nat.lt_of_lt_of_le h (Nat.mul_le_mul_right _ (Nat.le_of_lt h'))
theorem digs_len_mul {N V:Nat} (h:N<V*4294967296):(digs N).length≤(digs V).length+1:=
 digs_length_le.2 (lt_mul_pow N V 4294967296 _ h (digs_length_le.1 (Nat.le_refl (digs V).length)))
end W
namespace W
open Pl (bval bv nb tk tk_zero tk_size)
theorem mid_limb {s:ByteArray} {s0 m d:Nat} (h:Mid s s0 m d) (hs:s0=m-4):(tk s m:Int)=d+4294967296*tk s s0:=by
 obtain⟨h1,h2⟩:=h
 by_cases h4:4≤m
 ·rw[show m-s0=4 by omega] at h1;omega
 ·have e:s0=0:=by omega
  subst e;rw[tk_zero] at h1⊢
  omega
def LI(s:ByteArray)(l:List Int)(m:Nat):Prop:=Dig l∧dv l+4294967296^l.length*(tk s m:Int)=bv s
theorem LI.start(s:ByteArray):LI s [] s.size:=⟨Dig.nil,by rw[tk_size];simp[dv]⟩
theorem LI.succ {s:ByteArray} {l:List Int} {m s0 d:Nat} (h:LI s l m) (hm:Mid s s0 m d) (hs:s0=m-4) (hd:d<4294967296):LI s (l++ [(d:Int)]) s0:=by
 refine⟨h.1.snoc (by omega) (by omega),?_⟩
 have e:=h.2;rw[mid_limb hm hs] at e;rw[dv_snoc,List.length_append,List.length_singleton,Int.pow_succ,←e]
 grind
theorem LI.done{s:ByteArray}{l:List Int}(h:LI s l 0):Dig l∧dv l=bv s:=⟨h.1,by have:=h.2;rw[tk_zero] at this;simpa using this⟩
theorem set_mid {out l:List Int} {k:Nat} (h:out.length=k) (hk:k<l.length) (z:Int):(out++l.drop k).set k z=(out++ [z])++l.drop (k+1):=by
 subst h;rw[List.set_append_right _ _ (Nat.le_refl _),Nat.sub_self,List.drop_eq_getElem_cons hk,List.set_cons_zero,List.append_assoc]
 rfl
theorem get_mid {out l:List Int} {k:Nat} (h:out.length=k) (hk:k<l.length):(out++l.drop k)[k]'(by simp;omega)=l[k]:=by
 subst h;rw[List.getElem_append_right (Nat.le_refl _)]
 simp
def SI (u v:List Int) (k:Nat) (out:List Int) (c:Int):Prop:=
  Dig out∧out.length=k∧0≤c∧c≤1∧dv out+4294967296^k*c=dv (u.take k)+dv (v.take k)
theorem SI.start(u v:List Int):SI u v 0 [] 0:=⟨Dig.nil,rfl,by omega,by omega,by simp[dv]⟩
theorem SI.bound {u v:List Int} {k:Nat} {out:List Int} {c:Int} (h:SI u v k out c) (hu:Dig u) (hv:Dig v) (hk:k<u.length):0≤u[k]+c+gd v k∧u[k]+c+gd v k<8589934592∧0≤u[k]+c∧u[k]+c<8589934592:=by
 obtain⟨_,_,h3,h4,_⟩:=h;have:=hu.get k hk;have:=gd_bound hv k
 omega
theorem SI.succ {u v:List Int} {k:Nat} {out:List Int} {c:Int} (h:SI u v k out c) (hu:Dig u) (hv:Dig v) (hk:k<u.length):
  SI u v (k+1) (out++ [(u[k]+c+gd v k)%4294967296]) ((u[k]+c+gd v k)/4294967296):=by
 have hb:=h.bound hu hv hk;obtain⟨h1,h2,h3,h4,h5⟩:=h;generalize hs:u[k]+c+gd v k=s at hb⊢
 refine⟨h1.snoc (by omega) (by omega),by simp[h2],by omega,by omega,?_⟩
 rw[dv_snoc,h2,dv_take_succ hk,dv_take_gd];have e:s %4294967296+4294967296*(s/4294967296)=s:=Int.emod_add_mul_ediv s 4294967296
 have e2:(4294967296:Int)^(k+1)*(s/4294967296)=4294967296^k*(4294967296*(s/4294967296)):=by rw[Int.pow_succ];grind
 rw[e2]
 have e3:(4294967296:Int)^k*(s %4294967296)+4294967296^k*(4294967296*(s/4294967296))=4294967296^k*s:=by rw[←Int.mul_add,e]
 have e4:(4294967296:Int)^k*s=4294967296^k*u[k]+4294967296^k*c+4294967296^k*gd v k:=by rw[←hs];grind
 omega
theorem SI.done {u v:List Int} {out:List Int} {c:Int} (h:SI u v u.length out c) (hl:v.length≤u.length):Dig (out++ [c])∧dv (out++ [c])=dv u+dv v:=by
 obtain⟨h1,h2,h3,h4,h5⟩:=h
 refine⟨h1.snoc h3 (by omega),?_⟩
 rw[dv_snoc,h2,h5,List.take_length,List.take_of_length_le hl]
theorem sub_digit{d:Int}(h0: -4294967296≤d)(h1:d<4294967296):d %18446744073709551616 %4294967296-4294967296*(d %18446744073709551616/9223372036854775808)=d:=by omega
theorem sub_borrow(d:Int):0≤d %18446744073709551616/9223372036854775808∧d %18446744073709551616/9223372036854775808≤1:=by omega
theorem MI.step {u v:List Int} {k:Nat} {out:List Int} {b:Int} (h:MI u v k out b) (hu:Dig u) (hv:Dig v) (hk:k<u.length):
  MI u v (k+1) (out++ [(u[k]-b-gd v k)%18446744073709551616 %4294967296]) ((u[k]-b-gd v k)%18446744073709551616/9223372036854775808):=by
 have hb:=hu.get k hk;have hg:=gd_bound hv k;have h3:=h.2.2.1;have h4:=h.2.2.2.1
 refine h.succ hk ?_ ?_ ?_ ?_ ?_
 ·omega
 ·omega
 ·exact(sub_borrow _).1
 ·exact(sub_borrow _).2
 ·exact sub_digit (by omega) (by omega)
end W
namespace Go.Proofs
open Go.Shelf
def Tryz.lays133_ren:Go.Shelf.Ren:=⟨fun|133=>139|128=>147|n=>n,fun|51=>138|3=>3|4=>4|46=>131|5=>5|9=>9|n=>n,fun|n=>n⟩
theorem Tryz.lays133:Go.Proofs.Lays.n133 Tryz.prog Tryz.lays133_ren:= {
 mixed:=by kernel_rfl
 f128:=Tryz.func147.trans (congrArg some (by kernel_rfl))
 f133:=Tryz.func139.trans (congrArg some (by kernel_rfl))
 t3:=Tryz.underlying3
 a3:=Tryz.isAgg3
 z3:=Tryz.sizeOf3
 v3:=Tryz.zeroValue3
 t4:=Tryz.underlying4
 a4:=Tryz.isAgg4
 z4:=Tryz.sizeOf4
 v4:=Tryz.zeroValue4
 t5:=Tryz.underlying5
 a5:=Tryz.isAgg5
 z5:=Tryz.sizeOf5
 v5:=Tryz.zeroValue5
 t9:=Tryz.underlying9
 a9:=Tryz.isAgg9
 z9:=Tryz.sizeOf9
 v9:=Tryz.zeroValue9
 t46:=Tryz.underlying131
 a46:=Tryz.isAgg131
 z46:=Tryz.sizeOf131
 v46:=Tryz.zeroValue131
 t51:=Tryz.underlying138
 a51:=Tryz.isAgg138
 z51:=Tryz.sizeOf138
 v51:=Tryz.zeroValue138}
theorem Tryz.bits_LeadingZeros32 (x:Int) (w:World) (h0:0≤x) (h1:x≤4294967295):
  Calls Tryz.prog 139 #[.int .u32 x] w fun e w'=>e= .returned (.int .i64 (32-(Lib.bitLen x.toNat:Int)))∧w'=w:=Any.bits_LeadingZeros32 Tryz.lays133 x w h0 h1
def Tryz.lays106_ren:Go.Shelf.Ren:=⟨fun|106=>136|213=>145|265=>148|n=>n,fun|9=>9|3=>3|n=>n,fun|n=>n⟩
theorem Tryz.lays106:Go.Proofs.Lays.n106 Tryz.prog Tryz.lays106_ren:= {
 mixed:=by kernel_rfl
 f106:=Tryz.func136.trans (congrArg some (by kernel_rfl))
 f213:=Tryz.func145.trans (congrArg some (by kernel_rfl))
 f265:=Tryz.func148.trans (congrArg some (by kernel_rfl))
 t3:=Tryz.underlying3
 a3:=Tryz.isAgg3
 z3:=Tryz.sizeOf3
 v3:=Tryz.zeroValue3
 t9:=Tryz.underlying9
 a9:=Tryz.isAgg9
 z9:=Tryz.sizeOf9
 v9:=Tryz.zeroValue9}
open Go.RowKit in
/-- strings.Compare: "Compare returns an integer comparing two strings lexicographically. The result will be 0 if a == b, -1 if a < b, and +1 if a > b.": IT RETURNS 'Lib.compareBytes a b'; the world is as it was. (LAID: no walk: one application.) -/
theorem Tryz.strings_Compare (a b:ByteArray) (w:World):
  Calls Tryz.prog 136 #[.string a,.string b] w fun e w'=>e= .returned (.int .i64 (Lib.compareBytes a.data.toList b.data.toList))∧w'=w:=Any.strings_Compare Tryz.lays106 a b w
def Tryz.lays122_ren:Go.Shelf.Ren:=⟨fun|122=>135|215=>144|n=>n,fun|3=>3|4=>4|n=>n,fun|n=>n⟩
theorem Tryz.lays122:Go.Proofs.Lays.n122 Tryz.prog Tryz.lays122_ren:= {
 mixed:=by kernel_rfl
 f122:=Tryz.func135.trans (congrArg some (by kernel_rfl))
 f215:=Tryz.func144.trans (congrArg some (by kernel_rfl))
 t3:=Tryz.underlying3
 a3:=Tryz.isAgg3
 z3:=Tryz.sizeOf3
 v3:=Tryz.zeroValue3
 t4:=Tryz.underlying4
 a4:=Tryz.isAgg4
 z4:=Tryz.sizeOf4
 v4:=Tryz.zeroValue4}
open Go.RowKit in
/-- cmp.Compare at int: "Compare returns -1 if x is less than y, 0 if x equals y, +1 if x is greater than y.": IT RETURNS 'Lib.compareInt x y'; the world is as it was. (LAID: no walk: one application.) -/
theorem Tryz.cmp_Compare_int (x y:Int) (w:World):
  Calls Tryz.prog 135 #[.int .i64 x,.int .i64 y] w fun e w'=>e= .returned (.int .i64 (Lib.compareInt x y))∧w'=w:=Any.cmp_Compare_int Tryz.lays122 x y w
end Go.Proofs
namespace W
open Pl (bval bv nb tk)
def HI (x:List Int) (p:Int) (k:Nat) (out:List Int) (low:Int):Prop:=
  Dig out∧out.length=k∧0≤low∧low<p∧dv out+4294967296^k*low=dv (x.take k)*p
theorem HI.start(x:List Int){p:Int}(hp:0<p):HI x p 0 [] 0:=⟨Dig.nil,rfl,by omega,hp,by simp[dv]⟩
theorem mul_mod_div {d p q:Int} (hp:0<p) (hpq:p*q=4294967296):d*p %4294967296=p*(d %q)∧p*(d %q)+4294967296*(d/q)=p*d:=by
 rw[←hpq,Int.mul_comm d p]
 refine⟨Int.mul_emod_mul_of_pos d q hp,?_⟩
 rw[Int.mul_assoc,←Int.mul_add]
 congr 1
 exact Int.emod_add_mul_ediv d q
theorem q_pos {p q:Int} (hp:0<p) (hpq:p*q=4294967296):0<q:=by
 rcases(by omega:0<q∨q≤0) with h|h
 ·exact h
 ·have:=Int.mul_nonpos_of_nonneg_of_nonpos (Int.le_of_lt hp) h
  omega
theorem low_lt {d p q:Int} (hp:0<p) (hpq:p*q=4294967296) (h0:0≤d) (h1:d<4294967296):0≤d/q∧d/q<p:=by
 have hq:=q_pos hp hpq
 exact⟨Int.ediv_nonneg h0 (Int.le_of_lt hq),Int.ediv_lt_of_lt_mul hq (by omega)⟩
theorem digit_lt {d p q:Int} (hp:0<p) (hpq:p*q=4294967296):0≤p*(d %q)∧p*(d %q)≤4294967296-p:=by
 have hq:=q_pos hp hpq;have h1:=Int.emod_nonneg d (Int.ne_of_gt hq);have h2:=Int.emod_lt_of_pos d hq
 have h3:=Int.mul_le_mul_of_nonneg_left (show d %q≤q-1 by omega) (Int.le_of_lt hp)
 have h4:=Int.mul_nonneg (Int.le_of_lt hp) h1;rw[Int.mul_sub,hpq] at h3
 omega
theorem HI.succ {x:List Int} {p q:Int} {k:Nat} {out:List Int} {low:Int} (h:HI x p k out low) (hx:Dig x) (hp:0<p) (hpq:p*q=4294967296):
  HI x p (k+1) (out++ [gd x k*p %4294967296+low]) (gd x k/q):=by
 obtain⟨h1,h2,h3,h4,h5⟩:=h;have hb:=gd_bound hx k;obtain⟨e1,e2⟩:=mul_mod_div (d:=gd x k) hp hpq;have hl:=low_lt (d:=gd x k) hp hpq hb.1 hb.2;have hd:=digit_lt (d:=gd x k) hp hpq;rw[e1]
 refine⟨h1.snoc (by omega) (by omega),by simp[h2],hl.1,hl.2,?_⟩
 rw[dv_snoc,h2,dv_take_gd]
 have e3:(4294967296:Int)^(k+1)*(gd x k/q)=4294967296^k*(4294967296*(gd x k/q)):=by rw[Int.pow_succ];grind
 have e4:(4294967296:Int)^k*(p*(gd x k %q))+4294967296^k*(4294967296*(gd x k/q))=4294967296^k*(p*gd x k):=by rw[←Int.mul_add,e2]
 have e5:(dv (x.take k)+4294967296^k*gd x k)*p=dv (x.take k)*p+4294967296^k*(p*gd x k):=by grind
 have e6:(4294967296:Int)^k*(p*(gd x k %q)+low)=4294967296^k*(p*(gd x k %q))+4294967296^k*low:=by grind
 omega
theorem HI.done {x:List Int} {p:Int} {n:Nat} {out:List Int} {low:Int} (h:HI x p n out low) (hl:x.length≤n) (hb:dv x*p<4294967296^n):low=0∧Dig out∧out.length=n∧dv out=dv x*p:=by
 obtain⟨h1,h2,h3,h4,h5⟩:=h;rw[List.take_of_length_le hl] at h5;have h6:=dv_nonneg h1;have h7:=pow_pos n
 have hz:low=0:=by
  rcases(by omega:low=0∨1≤low) with h|h
  ·exact h
  ·have:=Int.mul_le_mul_of_nonneg_left h (Int.le_of_lt h7)
   omega
 subst hz
 exact⟨rfl,h1,h2,by omega⟩
def ES (u0 u1 u2 v0 v1 D:Int):Prop:=
  0≤D∧D≤4294967295∧D*(v0*4294967296+v1)≤(u0*4294967296+u1)*4294967296+u2∧
  ∀q:Int,q≤4294967295→q*(v0*4294967296+v1)≤(u0*4294967296+u1)*4294967296+u2→q≤D
structure EI (u0 u1 u2 v0 v1 D left:Int):Prop where
  d0:0≤D
  d1:D≤4294967297
  l0:0≤left
  l1:left<4294967296
  eq:D*v0+left=u0*4294967296+u1
  up: ∀q:Int,q≤4294967295→q*(v0*4294967296+v1)≤(u0*4294967296+u1)*4294967296+u2→q≤D
theorem EI.start {u0 u1 u2 v0 v1:Int} (a0:0≤u0) (a1:0≤u1) (a2:u1<4294967296) (a4:u2<4294967296) (b0:2147483648≤v0) (b1:v0<4294967296) (c0:0≤v1) (hle:u0≤v0):
  EI u0 u1 u2 v0 v1 ((u0*4294967296+u1)/v0) ((u0*4294967296+u1)%v0):=by
 have hv:0<v0:=by omega
 have e:=Int.mul_ediv_add_emod (u0*4294967296+u1) v0;have m0:=Int.emod_nonneg (u0*4294967296+u1) (Int.ne_of_gt hv);have m1:=Int.emod_lt_of_pos (u0*4294967296+u1) hv
 refine⟨Int.ediv_nonneg (by omega) (by omega),?_,m0,by omega,by rw[Int.mul_comm];exact e,?_⟩
 ·have:(u0*4294967296+u1)/v0<4294967298:=Int.ediv_lt_of_lt_mul hv (by omega)
  omega
 ·intro q hq hle
  rcases(by omega:q<0∨0≤q) with hn|hn
  ·have:0≤(u0*4294967296+u1)/v0:=Int.ediv_nonneg (by omega) (by omega)
   omega
  ·refine(Int.le_ediv_iff_mul_le hv).2 ?_
   have h1:=Int.mul_nonneg hn c0
   have h2:q*(v0*4294967296+v1)=q*v0*4294967296+q*v1:=by grind
   omega
theorem EI.mul_lt {u0 u1 u2 v0 v1 D left:Int} (h:EI u0 u1 u2 v0 v1 D left) (c0:0≤v1) (c1:v1<4294967296):0≤D*v1∧D*v1<18446744073709551616:=by
 refine⟨Int.mul_nonneg h.d0 c0,?_⟩
 have h1:=Int.mul_le_mul h.d1 (show v1≤4294967295 by omega) c0 (by omega)
 omega
theorem EI.val {u0 u1 u2 v0 v1 D left:Int} (h:EI u0 u1 u2 v0 v1 D left):D*(v0*4294967296+v1)+(left*4294967296+u2-D*v1)=(u0*4294967296+u1)*4294967296+u2:=by
 have:=h.eq;rw[←this]
 grind
theorem EI.done {u0 u1 u2 v0 v1 D left:Int} (h:EI u0 u1 u2 v0 v1 D left) (h1:D≤4294967295) (h2:D*v1≤left*4294967296+u2):ES u0 u1 u2 v0 v1 D:=by
 have:=h.val
 exact⟨h.d0,h1,by omega,h.up⟩
theorem EI.down {u0 u1 u2 v0 v1 D left:Int} (h:EI u0 u1 u2 v0 v1 D left) (a3:0≤u2) (hc:4294967295<D∨left*4294967296+u2<D*v1):
  1≤D∧∀q:Int,q≤4294967295→q*(v0*4294967296+v1)≤(u0*4294967296+u1)*4294967296+u2→q≤D-1:=by
 have hl:=h.l0;have h0:=h.d0;have hv:=h.val
 constructor
 ·rcases hc with hc|hc
  ·omega
  ·rcases(by omega:D=0∨1≤D) with rfl|h'
   ·omega
   ·exact h'
 ·intro q hq hle
  have h1:=h.up q hq hle
  rcases hc with hc|hc
  ·omega
  ·rcases(by omega:q=D∨q≤D-1) with rfl|h'
   ·omega
   ·exact h'
theorem EI.step {u0 u1 u2 v0 v1 D left:Int} (h:EI u0 u1 u2 v0 v1 D left) (a3:0≤u2) (b0:2147483648≤v0) (hc:4294967295<D∨left*4294967296+u2<D*v1) (hl:left+v0≤4294967295):EI u0 u1 u2 v0 v1 (D-1) (left+v0):=by
 have hd:=h.down a3 hc;have:=h.l0;have:=h.d1
 refine⟨by omega,by omega,by omega,by omega,?_,hd.2⟩
 rw[←h.eq];grind
theorem EI.stop {u0 u1 u2 v0 v1 D left:Int} (h:EI u0 u1 u2 v0 v1 D left) (a2:u1<4294967296) (a3:0≤u2) (c1:v1<4294967296) (hle:u0≤v0) (hc:4294967295<D∨left*4294967296+u2<D*v1) (hl:4294967295<left+v0):ES u0 u1 u2 v0 v1 (D-1):=by
 have hd:=h.down a3 hc;have h1:=h.l0;have h2:=h.d1;have h3:=h.eq
 have hD:D≤4294967296:=by
  rcases(by omega:D≤4294967296∨D=4294967297) with h'|rfl
  ·exact h'
  ·omega
 refine⟨by omega,by omega,?_,hd.2⟩
 have h4:(D-1)*(v0*4294967296+v1)+((left+v0)*4294967296+u2-(D-1)*v1)=(u0*4294967296+u1)*4294967296+u2:=by rw[←h3];grind
 have h5:(D-1)*v1≤4294967295*4294967295:=by
  rcases(by omega:v1<0∨0≤v1) with hn|hn
  ·have:=Int.mul_nonpos_of_nonneg_of_nonpos (show 0≤D-1 by omega) (Int.le_of_lt hn)
   omega
  ·exact Int.mul_le_mul (by omega) (by omega) hn (by omega)
 omega
theorem dv_two {l:List Int} {n:Nat} (h:l.length=n+2):dv l=dv (l.take n)+4294967296^n*(l[n+1]*4294967296+l[n]):=by
 have e1:l.take (n+2)=l:=List.take_of_length_le (by omega)
 have e2:=dv_take_succ (l:=l) (k:=n+1) (by omega)
 have e3:=dv_take_succ (l:=l) (k:=n) (by omega)
 rw[e1] at e2;rw[e2,e3,Int.pow_succ]
 grind
theorem dv_three {l:List Int} {n:Nat} (h:l.length=n+3):dv l=dv (l.take n)+4294967296^n*((l[n+2]*4294967296+l[n+1])*4294967296+l[n]):=by
 have e1:l.take (n+3)=l:=List.take_of_length_le (by omega)
 have e2:=dv_take_succ (l:=l) (k:=n+2) (by omega)
 have e3:=dv_take_succ (l:=l) (k:=n+1) (by omega)
 have e4:=dv_take_succ (l:=l) (k:=n) (by omega)
 rw[e1] at e2;rw[e2,e3,e4,Int.pow_succ,Int.pow_succ]
 grind
theorem dv_take_lt {l:List Int} {n:Nat} (hd:Dig l) (h:n≤l.length):0≤dv (l.take n)∧dv (l.take n)<4294967296^n:=by
 have h1:=dv_lt (hd.take n);rw[List.length_take,Nat.min_eq_left h] at h1
 exact⟨dv_nonneg (hd.take n),h1⟩
theorem est_close {u v:List Int} {n:Nat} {D:Int} (hu:Dig u) (hv:Dig v) (hul:u.length=n+3) (hvl:v.length=n+2) (hlt:dv u<dv v*4294967296) (hv0:2147483648≤v[n+1])
  (h:ES u[n+2] u[n+1] u[n] v[n+1] v[n] D):(D-1)*dv v≤dv u∧dv u<(D+1)*dv v:=by
 obtain⟨h0,h1,h2,h3⟩:=h;have eu:=dv_three hul;have ev:=dv_two hvl
 have tu:=dv_take_lt (n:=n) hu (by omega)
 have tv:=dv_take_lt (n:=n) hv (by omega)
 have hP:=pow_pos n
 have hvn:=hv.get n (by omega)
 generalize ((u[n+2]*4294967296+u[n+1])*4294967296+u[n]:Int)=U3 at*;generalize hV2:(v[n+1]*4294967296+v[n]:Int)=V2 at*;generalize dv (u.take n)=ru at*;generalize dv (v.take n)=rv at*;generalize (4294967296:Int)^n=P at*
 have hV:0<V2:=by omega
 have hdv:0<dv v:=by
  have:=Int.mul_pos hP hV
  omega
 constructor
 ·rcases(by omega:D=0∨1≤D) with rfl|hD
  ·have h5:0≤dv u:=dv_nonneg hu
   omega
  ·have h5:(D-1)*dv v≤(D-1)*(P*(V2+1)):=Int.mul_le_mul_of_nonneg_left (by rw[ev,Int.mul_add,Int.mul_one];omega) (by omega)
   have h6:(D-1)*(P*(V2+1))=P*(D*V2-V2+D-1):=by grind
   have h7:P*(D*V2-V2+D-1)≤P*U3:=Int.mul_le_mul_of_nonneg_left (by omega) (Int.le_of_lt hP)
   omega
 ·rcases(by omega:dv u<(D+1)*dv v∨(D+1)*dv v≤dv u) with h5|h5
  ·exact h5
  ·exfalso
   have h6:D+1<4294967296:=by
    have h7:(D+1)*dv v<4294967296*dv v:=by rw[Int.mul_comm 4294967296];omega
    exact Int.lt_of_mul_lt_mul_right h7 (Int.le_of_lt hdv)
   have h8:(D+1)*(P*V2)≤(D+1)*dv v:=Int.mul_le_mul_of_nonneg_left (by omega) (by omega)
   have h9:P*((D+1)*V2)<P*(U3+1):=by
    have e:(D+1)*(P*V2)=P*((D+1)*V2):=by grind
    rw[Int.mul_add P U3,Int.mul_one];omega
   have h10:=Int.lt_of_mul_lt_mul_left h9 (Int.le_of_lt hP)
   have:=h3 (D+1) (by omega) (by omega)
   omega
def KI (u v:List Int) (D:Int) (k:Nat) (out:List Int) (b c:Int):Prop:=
  Dig out∧out.length=k∧0≤b∧b≤1∧0≤c∧c<4294967296∧dv out-4294967296^k*(b+c)=dv (u.take k)-D*dv (v.take k)
theorem KI.start(u v:List Int)(D:Int):KI u v D 0 [] 0 0:=⟨Dig.nil,rfl,by omega,by omega,by omega,by omega,by simp[dv]⟩
theorem KI.bound {u v:List Int} {D:Int} {k:Nat} {out:List Int} {b c:Int} (h:KI u v D k out b c) (hv:Dig v) (hk:k<v.length) (h0:0≤D) (h1:D<4294967296):0≤D*v[k]∧D*v[k]+c≤18446744069414584320:=by
 obtain⟨_,_,_,_,h5,h6,_⟩:=h;have:=hv.get k hk;have h8:=Int.mul_nonneg h0 this.1
 have h7:=Int.mul_le_mul (show D≤4294967295 by omega) (show v[k]≤4294967295 by omega) this.1 (by omega)
 omega
theorem KI.succ {u v:List Int} {D:Int} {k:Nat} {out:List Int} {b c x y:Int} (h:KI u v D k out b c) (hu:Dig u) (hv:Dig v) (hk:k<v.length) (hk':k<u.length) (hy:v[k]=y) (hx:u[k]=x) (h0:0≤D) (h1:D<4294967296):
  KI u v D (k+1) (out++ [(x-(D*y+c)%4294967296-b)%18446744073709551616 %4294967296]) ((x-(D*y+c)%4294967296-b)%18446744073709551616/9223372036854775808) ((D*y+c)/4294967296):=by
 subst hy hx;have hb:=h.bound hv hk h0 h1;have hxb:=hu.get k hk';obtain⟨g1,g2,g3,g4,g5,g6,g7⟩:=h;rw[show D*v[k]+c=c+D*v[k] from Int.add_comm _ _] at*;generalize hp:c+D*v[k]=p at*;generalize hd:u[k]-p %4294967296-b=d
 have e:=sub_digit (d:=d) (by omega) (by omega)
 have e':=sub_borrow d
 refine⟨g1.snoc (by omega) (by omega),by simp[g2],e'.1,e'.2,by omega,by omega,?_⟩
 rw[dv_snoc,g2,dv_take_succ hk',dv_take_succ hk,Int.mul_add D,Int.pow_succ];generalize d %18446744073709551616 %4294967296=r at*;generalize d %18446744073709551616/9223372036854775808=b' at*;have e2:=Int.mul_ediv_add_emod p 4294967296;generalize p/4294967296=p1 at*;generalize p %4294967296=p0 at*
 have e3:r-4294967296*(b'+p1)=u[k]-b-c-D*v[k]:=by omega
 have e4:(4294967296:Int)^k*(r-4294967296*(b'+p1))=4294967296^k*(u[k]-b-c-D*v[k]):=by rw[e3]
 grind
theorem KI.done {u v:List Int} {D:Int} {n:Nat} {out:List Int} {b c x:Int} (h:KI u v D n out b c) (hv:Dig v) (hul:u.length=n+1) (hvl:v.length=n) (hx:u[n]=x) (hlo:(D-1)*dv v≤dv u) (hhi:dv u<(D+1)*dv v):
  (D*dv v≤dv u∧x-c-b=0∧dv out=dv u-D*dv v)∨(dv u<D*dv v∧x-c-b= -1∧dv out=dv u-D*dv v+4294967296^n):=by
 obtain⟨g1,g2,g3,g4,g5,g6,g7⟩:=h
 have e1:u.take (n+1)=u:=List.take_of_length_le (by omega)
 have e2:=dv_take_succ (l:=u) (k:=n) (by omega)
 rw[e1,hx] at e2
 rw[List.take_of_length_le (by omega:v.length≤n)] at g7
 have h1:=dv_lt g1;have h2:=dv_nonneg g1;have h3:=dv_lt hv;rw[g2] at h1;rw[hvl] at h3;have hP:=pow_pos n;generalize (4294967296:Int)^n=P at*
 have e3:(D-1)*dv v=D*dv v-dv v:=by grind
 have e4:(D+1)*dv v=D*dv v+dv v:=by grind
 have e5:dv u-D*dv v=dv out+P*(x-c-b):=by grind
 generalize x-c-b=t at*
 have ht1:P*t<P*1:=by omega
 have ht2:P*(-2)<P*t:=by omega
 have h5:=Int.lt_of_mul_lt_mul_left ht1 (Int.le_of_lt hP);have h6:=Int.lt_of_mul_lt_mul_left ht2 (Int.le_of_lt hP)
 rcases(by omega:t=0∨t= -1) with rfl|rfl
 ·left;omega
 ·right;omega
theorem SI.back {v out out2:List Int} {n:Nat} {c T:Int} (h:SI out v n out2 c) (hl:out.length=n) (hvl:v.length=n) (hT:dv out=T+4294967296^n) (h0:0≤T+dv v) (hv:Dig v):c=1∧dv out2=T+dv v:=by
 obtain⟨g1,g2,g3,g4,g5⟩:=h
 rw[List.take_of_length_le (by omega),List.take_of_length_le (by omega)] at g5
 have h2:=dv_lt g1;have h3:=dv_nonneg g1;have h4:=dv_lt hv;rw[g2] at h2;rw[hvl] at h4
 rcases(by omega:c=0∨c=1) with rfl|rfl
 ·omega
 ·omega
structure GI (U V:Int) (n L M:Nat) (j:Nat) (u q:List Int):Prop where
  du:Dig u
  dq:Dig q
  lu:u.length=L
  lq:q.length=M
  lt:dv (u.take (j+n))<V*4294967296^j
  val:dv (u.take (j+n))+4294967296^j*V*dv (q.drop j)=U
theorem GI.start {U V:Int} {n M:Nat} {u:List Int} (hu:Dig u) (hl:u.length=M+n) (hU:dv u=U) (hlt:U<V*4294967296^M):GI U V n (M+n) M M u (List.replicate M 0):=by
 have e:u.take (M+n)=u:=List.take_of_length_le (by omega)
 refine⟨hu,Dig.replicate _,hl,by simp,by rw[e,hU];exact hlt,by rw[e,hU];simp[dv]⟩
def win(u:List Int)(j n:Nat):List Int:=(u.take (j+n+1)).drop j
theorem GI.win {U V:Int} {n L M j:Nat} {u q:List Int} (h:GI U V n L M (j+1) u q) (hj:j+n<L):Dig (win u j n)∧(win u j n).length=n+1∧0≤dv (win u j n)∧dv (win u j n)<V*4294967296∧dv (u.take (j+1+n))=dv (u.take j)+4294967296^j*dv (win u j n):=by
 have hlt:=h.lt;have hl:=h.lu;have hd:Dig (W.win u j n):=(h.du.take _).drop _
 have e:=dv_split (l:=u.take (j+n+1)) (k:=j) (by simp;omega)
 rw[List.take_take,Nat.min_eq_left (by omega:j≤j+n+1)] at e
 rw[show j+1+n=j+n+1 by omega] at hlt⊢
 have h0:=dv_nonneg hd;have h1:=dv_nonneg (h.du.take j)
 refine⟨hd,by simp[W.win];omega,h0,?_,e⟩
 have hP:=pow_pos j
 change dv (u.take (j+n+1))=dv (u.take j)+4294967296^j*dv (W.win u j n) at e
 have h2:(4294967296:Int)^j*dv (W.win u j n)<4294967296^j*(V*4294967296):=by
  have e2:V*(4294967296:Int)^(j+1)=4294967296^j*(V*4294967296):=by rw[Int.pow_succ];grind
  omega
 exact Int.lt_of_mul_lt_mul_left h2 (Int.le_of_lt hP)
theorem GI.step {U V:Int} {n L M j:Nat} {u q w':List Int} {D:Int} (h:GI U V n L M (j+1) u q) (hj:j+n<L) (hM:j<M) (hd:Dig w') (hw:w'.length=n+1) (hD0:0≤D) (hD1:D<4294967296)
  (he:dv (W.win u j n)=D*V+dv w') (hlt:dv w'<V) (hz:dv w'=dv (w'.take n)):GI U V n L M j (u.take j++(w'++u.drop (j+n+1))) (q.set j D):=by
 obtain⟨_,_,_,_,e⟩:=h.win hj;have hl:=h.lu;have hval:=h.val
 have hlu:(u.take j).length=j:=by simp;omega
 have et:(u.take j++(w'++u.drop (j+n+1))).take (j+n)=u.take j++w'.take n:=by
  rw[List.take_append,hlu,List.take_of_length_le (by omega),show j+n-j=n by omega,List.take_append,hw,show n-(n+1)=0 by omega,List.take_zero,List.append_nil]
 have hP:=pow_pos j
 have hT:=dv_take_lt (n:=j) h.du (by omega)
 refine⟨(h.du.take j).append (hd.append (h.du.drop _)),h.dq.set _ hD0 hD1,by simp[hw];omega,by simp[h.lq],?_,?_⟩
 ·rw[et,dv_append,hlu,←hz]
  have h1:(4294967296:Int)^j*(dv w'+1)≤4294967296^j*V:=Int.mul_le_mul_of_nonneg_left (by omega) (Int.le_of_lt hP)
  rw[Int.mul_add,Int.mul_one] at h1;rw[Int.mul_comm V]
  omega
 ·rw[et,dv_append,hlu,←hz,drop_set_self _ _ _ (by rw[h.lq];exact hM)]
  simp only[dv]
  rw[e,he,Int.pow_succ] at hval;rw[←hval]
  grind
theorem GI.done {U V:Int} {n L M:Nat} {u q:List Int} (h:GI U V n L M 0 u q) (hV:0<V):dv (u.take n)=U %V∧dv q=U/V:=by
 have h1:=h.lt;have h2:=h.val;have h3:=dv_nonneg (h.du.take (0+n))
 simp only[Nat.zero_add,Int.pow_zero,Int.mul_one,Int.one_mul,List.drop_zero] at h1 h2 h3
 have e:U/V=dv q:=by rw[←h2,Int.add_mul_ediv_left _ _ (Int.ne_of_gt hV),Int.ediv_eq_zero_of_lt h3 h1];omega
 refine⟨?_,e.symm⟩
 rw[←h2,Int.add_mul_emod_self_left,Int.emod_eq_of_lt h3 h1]
end W
namespace W
theorem bitLen_spec: ∀(k t:Nat),t<2^k→k≤64→t≠0→2^(Go.Lib.bitLen t-1)≤t∧t<2^Go.Lib.bitLen t∧1≤Go.Lib.bitLen t
 |0,t,h,_,h0=>by simp at h;omega
 | k+1,t,h,hk,h0=>by
  have h64:t<2^64:=Nat.lt_of_lt_of_le h (Nat.pow_le_pow_right (by omega) hk)
  rw[Go.Lib.bitLen_half t h0 h64]
  by_cases h1:t/2=0
  ·have e:Go.Lib.bitLen (t/2)=0:=by rw[h1];rfl
   rw[e]
   simp;omega
  ·have ih:=bitLen_spec k (t/2) (by rw[Nat.pow_succ] at h;omega) (by omega) h1
   obtain⟨a,b,c⟩:=ih;generalize Go.Lib.bitLen (t/2)=m at*
   rw[show 1+m-1=(m-1)+1 by omega,show 1+m=m+1 by omega,Nat.pow_succ,Nat.pow_succ]
   omega
theorem norm_digit {t:Nat} (h0:t≠0) (h1:t<4294967296):Go.Lib.bitLen t≤32∧32-Go.Lib.bitLen t<32∧2147483648≤t*2^(32-Go.Lib.bitLen t)∧(t+1)*2^(32-Go.Lib.bitLen t)≤4294967296:=by
 obtain⟨a,b,c⟩:=bitLen_spec 32 t h1 (by omega) h0
 have h32:Go.Lib.bitLen t≤32:=by
  rcases Nat.lt_or_ge 32 (Go.Lib.bitLen t) with h|h
  ·have:=Nat.pow_le_pow_right (show 0<2 by omega) (show 32≤Go.Lib.bitLen t-1 by omega)
   omega
  ·exact h
 generalize Go.Lib.bitLen t=m at*
 refine⟨h32,by omega,?_,?_⟩
 ·have:=Nat.mul_le_mul_right (2^(32-m)) a
  rw[←Nat.pow_add,show m-1+(32-m)=31 by omega] at this
  omega
 ·have:=Nat.mul_le_mul_right (2^(32-m)) (show t+1≤2^m by omega)
  rw[←Nat.pow_add,show m+(32-m)=32 by omega] at this
  omega
theorem top_digit {Y m:Nat} (h:(digs Y).length=m+1): ∃t:Nat,(digs Y)[m]=(t:Int)∧t≠0∧t<4294967296∧(t:Int)*4294967296^m≤Y∧(Y:Int)<((t:Int)+1)*4294967296^m:=by
 have hd:=(digs_dig Y).get m (by omega)
 have e2:=dv_take_succ (l:=digs Y) (k:=m) (by omega)
 rw[List.take_of_length_le (by omega),dv_digs] at e2
 have tv:=dv_take_lt (n:=m) (digs_dig Y) (by omega)
 have hne:(digs Y)[m]≠0:=by
  have hn:digs Y≠ []:=by intro e;rw[e] at h;simp at h
  have:=trim_digs Y hn;rw[List.getLast_eq_getElem] at this
  simpa [h] using this
 obtain⟨t,ht⟩:=Int.eq_ofNat_of_zero_le hd.1;rw[ht] at hd hne e2⊢
 refine⟨t,rfl,by omega,by omega,?_,?_⟩
 ·rw[Int.mul_comm];omega
 ·rw[Int.add_mul,Int.one_mul,Int.mul_comm];omega
theorem fit_v {Y m t:Nat} {p:Int} (hp:0<p) (h:(Y:Int)<((t:Int)+1)*4294967296^m) (ht:((t:Int)+1)*p≤4294967296):(Y:Int)*p<4294967296^(m+1):=by
 have h1:=Int.mul_lt_mul_of_pos_right h hp;have h2:=Int.mul_le_mul_of_nonneg_left ht (Int.le_of_lt (pow_pos m));rw[Int.pow_succ]
 have e:((t:Int)+1)*4294967296^m*p=4294967296^m*(((t:Int)+1)*p):=by grind
 omega
theorem top_v {v:List Int} {Y m t:Nat} {p:Int} (hv:Dig v) (hl:v.length=m+1) (he:dv v=(Y:Int)*p) (hp:0<p) (h:(t:Int)*4294967296^m≤Y) (ht:2147483648≤(t:Int)*p):2147483648≤v[m]:=by
 have e2:=dv_take_succ (l:=v) (k:=m) (by omega)
 rw[List.take_of_length_le (by omega),he] at e2
 have tv:=dv_take_lt (n:=m) hv (by omega)
 have h1:=Int.mul_le_mul_of_nonneg_right h (Int.le_of_lt hp);have h2:=Int.mul_le_mul_of_nonneg_left ht (Int.le_of_lt (pow_pos m))
 have e:(t:Int)*4294967296^m*p=4294967296^m*((t:Int)*p):=by grind
 have h3:(4294967296:Int)^m*2147483648<4294967296^m*(v[m]+1):=by rw[Int.mul_add,Int.mul_one];omega
 have:=Int.lt_of_mul_lt_mul_left h3 (Int.le_of_lt (pow_pos m))
 omega
theorem fit_u {X Y lx m M t:Nat} {p:Int} (hX:(X:Int)<4294967296^lx) (hp:0<p) (hp1:p≤2147483648) (h:(t:Int)*4294967296^m≤Y) (ht:2147483648≤(t:Int)*p) (hM:lx+1=M+(m+1)):(X:Int)*p<(Y:Int)*p*4294967296^M:=by
 have h1:=Int.mul_lt_mul_of_pos_right hX hp;have h2:=Int.mul_le_mul_of_nonneg_right h (Int.le_of_lt hp);have h3:=Int.mul_le_mul_of_nonneg_left ht (Int.le_of_lt (pow_pos m))
 have e:(t:Int)*4294967296^m*p=4294967296^m*((t:Int)*p):=by grind
 have h4:(4294967296:Int)^m*2147483648≤(Y:Int)*p:=by omega
 have h5:=Int.mul_le_mul_of_nonneg_right h4 (Int.le_of_lt (pow_pos M))
 have e2:(4294967296:Int)^m*2147483648*4294967296^M=4294967296^lx*2147483648:=by
  have:(4294967296:Int)^lx=4294967296^m*4294967296^M:=by rw[←Int.pow_add,show lx=m+M by omega]
  rw[this];grind
 have h6:=Int.mul_le_mul_of_nonneg_left hp1 (Int.le_of_lt (pow_pos lx))
 omega
theorem fit_x {X lx:Nat} {p:Int} (hX:(X:Int)<4294967296^lx) (hp:0<p) (hp1:p≤2147483648):(X:Int)*p<4294967296^(lx+1):=by
 have h1:=Int.mul_lt_mul_of_pos_right hX hp
 have h6:=Int.mul_le_mul_of_nonneg_left (show p≤4294967296 by omega) (Int.le_of_lt (pow_pos lx))
 rw[Int.pow_succ];omega
theorem digs_lt(X:Nat):(X:Int)<4294967296^(digs X).length:=by have:=dv_lt (digs_dig X);rwa [dv_digs] at this
theorem ES.exists {u0 u1 u2 v0 v1:Int} (hu:0≤(u0*4294967296+u1)*4294967296+u2) (hv:0<v0*4294967296+v1): ∃D,ES u0 u1 u2 v0 v1 D:=by
 generalize hU:(u0*4294967296+u1)*4294967296+u2=U at hu;generalize hV:v0*4294967296+v1=V at hv
 refine⟨min (U/V) 4294967295,?_⟩
 unfold ES;rw[hU,hV];have h1:0≤U/V:=Int.ediv_nonneg hu (Int.le_of_lt hv)
 refine⟨by omega,by omega,?_,?_⟩
 ·have:=Int.mul_le_mul_of_nonneg_right (show min (U/V) 4294967295≤U/V by omega) (Int.le_of_lt hv)
  have h2:=Int.ediv_mul_le U (Int.ne_of_gt hv)
  omega
 ·intro q hq hle
  have:=(Int.le_ediv_iff_mul_le hv).2 hle
  omega
theorem ES.unique {u0 u1 u2 v0 v1 D E:Int} (h:ES u0 u1 u2 v0 v1 D) (h':ES u0 u1 u2 v0 v1 E):D=E:=by
 have a:=h.2.2.2 E h'.2.1 h'.2.2.1;have b:=h'.2.2.2 D h.2.1 h.2.2.1
 omega
theorem top_le {u v:List Int} {n:Nat} (hu:Dig u) (hv:Dig v) (hul:u.length=n+2) (hvl:v.length=n+1) (hlt:dv u<dv v*4294967296):u[n+1]≤v[n]:=by
 have e2:=dv_take_succ (l:=v) (k:=n) (by omega)
 rw[List.take_of_length_le (by omega)] at e2
 have e3:=dv_take_succ (l:=u) (k:=n+1) (by omega)
 rw[List.take_of_length_le (by omega),Int.pow_succ] at e3
 have tv:=dv_take_lt (n:=n) hv (by omega)
 have tu:=dv_take_lt (n:=n+1) hu (by omega)
 have hP:=pow_pos n
 rcases(by omega:u[n+1]≤v[n]∨v[n]+1≤u[n+1]) with h|h
 ·exact h
 ·exfalso
  have h1:=Int.mul_le_mul_of_nonneg_left h (Int.le_of_lt hP);rw[Int.mul_add,Int.mul_one] at h1
  have e4:(4294967296:Int)^n*4294967296*u[n+1]=4294967296*(4294967296^n*u[n+1]):=by grind
  generalize (4294967296:Int)^n*u[n+1]=a at*;generalize (4294967296:Int)^n*v[n]=b at*
  omega
theorem div_shift {X Y:Nat} {p:Int} (hp:0<p):(X:Int)*p/((Y:Int)*p)=((X/Y:Nat):Int):=by
 rw[Int.mul_ediv_mul_of_pos_left _ _ hp];rfl
theorem mod_shift {X Y V:Nat} (hV:0<V):((X:Int)*V %((Y:Int)*V)).toNat/V=X %Y:=by
 have e:((X:Int)*V %((Y:Int)*V))=((X*V %(Y*V):Nat):Int):=by push_cast;rfl
 rw[e,Int.toNat_natCast,Nat.mul_mod_mul_right,Nat.mul_div_cancel _ hV]
end W
namespace Pl
def rightB(n s:Int):Bool:=decide (0≤s∧s≤6∧ -1000000000000000≤n∧n≤1000000000000000∧(s=0∨n %10≠0))
theorem rightB_true{n s:Int}:rightB n s=true↔(0≤s∧s≤6∧ -1000000000000000≤n∧n≤1000000000000000∧(s=0∨n %10≠0)):=by simp[rightB]
def vn(n s:Int):Int:=if rightB n s=true then n else 0
def vs(n s:Int):Int:=if rightB n s=true then s else 0
theorem v_right{n s:Int}(h:rightB n s=true):vn n s=n∧vs n s=s:=by simp[vn,vs,h]
theorem v_wrong{n s:Int}(h:rightB n s=false):vn n s=0∧vs n s=0:=by simp[vn,vs,h]
theorem right_zero:rightB 0 0=true:=by decide
theorem v_isright (n s:Int):rightB (vn n s) (vs n s)=true:=by
 by_cases h:rightB n s=true
 ·rw[(v_right h).1,(v_right h).2];exact h
 ·rw[(v_wrong (by simpa using h)).1,(v_wrong (by simpa using h)).2];exact right_zero
theorem v_bd (n s:Int):0≤vs n s∧vs n s≤6∧ -1000000000000000≤vn n s∧vn n s≤1000000000000000:=by
 have:=rightB_true.1 (v_isright n s);omega
end Pl
namespace Pl
def p10(s:Int):Int:=10^s.toNat
theorem p10_pos(s:Int):1≤p10 s:=by have:(0:Int)<10^s.toNat:=Int.pow_pos (by omega);unfold p10;omega
def wh(n s:Int):Int:=(vn n s).tdiv (p10 (vs n s))
def rs(n s:Int):Int:=(vn n s).tmod (p10 (vs n s))*p10 (6-vs n s)
theorem sgn (n s:Int):(0<wh n s→0≤rs n s)∧(wh n s<0→rs n s≤0):=by
 have hb:=v_bd n s;have h1:=p10_pos (vs n s);have h3:=p10_pos (6-vs n s);unfold wh rs;generalize vn n s=N at*;generalize p10 (6-vs n s)=Q at*;generalize p10 (vs n s)=P at*
 rcases Int.le_total 0 N with h0|h0
 ·have a:=Int.tdiv_nonneg h0 (show 0≤P by omega)
  have c:0≤N.tmod P:=Int.tmod_nonneg _ h0
  exact⟨fun _=>Int.mul_nonneg c (by omega),fun h=>by omega⟩
 ·have a:=Int.tdiv_nonneg (show 0≤ -N by omega) (show 0≤P by omega)
  have c:0≤(-N).tmod P:=Int.tmod_nonneg _ (by omega)
  have d:N.tdiv P= -((-N).tdiv P):=by rw[Int.neg_tdiv];omega
  have e:N.tmod P= -((-N).tmod P):=by rw[Int.neg_tmod];omega
  refine⟨fun h=>by omega,fun _=>?_⟩
  rw[e,Int.neg_mul]
  have:=Int.mul_nonneg c (show 0≤Q by omega)
  omega
end Pl
namespace Pl
end Pl
namespace Pl
open Go
end Pl
namespace Pl
end Pl
namespace Pl
end Pl
namespace Pl
open Go.Lib
end Pl
namespace Pl
open Go.Lib
def dval(l:List UInt8):Nat:=l.foldl (fun a c=>a*10+(c.toNat-48)) 0
def isD(c:UInt8):Bool:=decide (48≤c.toNat∧c.toNat≤57)
def alld(l:List UInt8):Bool:=l.all isD
end Pl
namespace Pl
open Go.Lib
end Pl
namespace Pl
open Go.Lib
def sg(b:Bool):Int:=if b=true then-1 else 1
end Pl
namespace Pl
open Go.Lib
end Pl
namespace Pl
end Pl
namespace Pl
end Pl
namespace Pl
open Go.Lib
end Pl
namespace W
end W
namespace Pl
def nparse (l:List UInt8):Option Nat:=
  if l= []∨(1<l.length∧l.head? =some 48) then none else if alld l=true then some (dval l) else none
end Pl
namespace Go.Proofs.YtinmmkcjjlconaaGreat
theorem _root_.Go.RowKit.Below.tr{a b c:Go.World}(h:Go.RowKit.Below a.heap.size a b)(k:Go.RowKit.Below b.heap.size b c):Go.RowKit.Below a.heap.size a c:=h.trans (k.mono h.size)
open Go.RowKit
structure Off (M:Nat→Prop) (w w':World):Prop where
  os:w'.os=w.os
  tape:w'.tape=w.tape
  output:w'.output=w.output
  size:w.heap.size≤w'.heap.size
  block: ∀k,k<w.heap.size→¬M k→w'.heap[k]? =w.heap[k]?
section
variable {M M':Nat→Prop} {w w' w'':World}
theorem Off.refl(M:Nat→Prop)(w:World):Off M w w:=⟨rfl,rfl,rfl,Nat.le_refl _,fun _ _ _=>rfl⟩
theorem Off.trans(h:Off M w w')(k:Off M w' w''):Off M w w'':=⟨k.os.trans h.os,k.tape.trans h.tape,k.output.trans h.output,Nat.le_trans h.size k.size,fun i hi hm=>(k.block i (Nat.lt_of_lt_of_le hi h.size) hm).trans (h.block i hi hm)⟩
theorem off_of(h:Below w.heap.size w w'):Off M w w':=⟨h.os,h.tape,h.output,h.size,fun k hk _=>h.block k hk⟩
theorem Off.step(h:Off M w w')(k:Below w'.heap.size w' w''):Off M w w'':=h.trans (off_of k)
theorem Off.mono(h:Off M w w')(hM: ∀k,k<w.heap.size→M k→M' k):Off M' w w':=⟨h.os,h.tape,h.output,h.size,fun k hk hm=>h.block k hk fun e=>hm (hM k hk e)⟩
theorem Off.below{B:Nat}(h:Off M w w')(hB: ∀k,k<B→¬M k)(hw:B≤w.heap.size):Below B w w':=⟨h.os,h.tape,h.output,h.size,fun k hk=>h.block k (Nat.lt_of_lt_of_le hk hw) (hB k hk)⟩
theorem Off.below0(h:Off M w w')(hB: ∀k,k<w.heap.size→¬M k):Below w.heap.size w w':=h.below hB (Nat.le_refl _)
theorem Off.cell(h:Off M w w'){p:Addr}(hp:p.block<w.heap.size)(hm: ¬M p.block):w'.cell? p=w.cell? p:=World.cell?_of_block (w:=w) (h.block p.block hp hm)
theorem Off.frozen(h:Off M w w'){p:Addr}(hp:p.block<w.heap.size)(hm: ¬M p.block):w'.frozen? p=w.frozen? p:=World.frozen?_of_block (w:=w) (h.block p.block hp hm)
theorem Off.set (h:Off M w w') {p:Addr} (hp:M p.block) (u:Value):Off M w (w'.setCell p u):=
 h.trans ⟨rfl,rfl,rfl,by simp[World.setCell],fun k _ hm=>Below.heap_setCell _ _ _ _ (fun e=>hm (e▸hp))⟩
theorem Off.alloc(h:Off M w w')(o:Obj):Off M w (w'.alloc o):=h.step ((Below.refl _ _).alloc (Nat.le_refl _) o)
theorem Off.drew(h:Off M w w'):Off M w w'.drew:=h.step (Below.refl _ _).drew
theorem Off.none(h:Below w.heap.size w w'):Off M w w':=off_of h
theorem Off.putObj (h:Off M w w') {l:Nat} (hl:M l) (o:Obj):Off M w (w'.putObj l o):=
 h.trans ⟨rfl,rfl,rfl,by simp,fun k _ hm=>World.putObj_heap_other (fun e=>hm (e▸hl))⟩
theorem Off.at {o:Obj} {k:Nat} (h:Off M w w') (hk:w.heap[k]? =some o) (hm: ¬M k):w'.heap[k]? =some o:=
 (h.block k (Array.getElem?_eq_some_iff.1 hk).1 hm).trans hk
theorem Off.new(h:Off M w w')(hM: ∀k,M k→w.heap.size≤k):Below w.heap.size w w':=h.below (fun k hk hm=>by have:=hM k hm;omega) (Nat.le_refl _)
end
def Foot{β:Type}(J:β→(Nat→Prop)→World→Prop):Prop:= ∀s O W W',J s O W→Off (fun k=> ¬O k) W W'→J s O W'
def Grows(O:Nat→Prop)(W:World)(O':Nat→Prop)(W':World):Prop:= ∀k,O' k→(O k∨W.heap.size≤k)∧k<W'.heap.size
theorem Off.grow {O O1:Nat→Prop} {W A B:World} (h:Off O W A) (hg:Grows O W O1 A) (h2:Off O1 A B):Off O W B:=
 ⟨h2.os.trans h.os,h2.tape.trans h.tape,h2.output.trans h.output,Nat.le_trans h.size h2.size,fun k hk hm=>(h2.block k (Nat.lt_of_lt_of_le hk h.size) (fun h1=>by
  rcases(hg k h1).1 with h|h
  ·exact hm h
  ·omega)).trans (h.block k hk hm)⟩
theorem Grows.trans {O O1 O2:Nat→Prop} {W A A' B:World} (h:Grows O W O1 A) (hw:W.heap.size≤A'.heap.size) (h2:Grows O1 A' O2 B):Grows O W O2 B:=fun k hk=>⟨by
 rcases(h2 k hk).1 with h3|h3
 ·exact(h k h3).1
 ·right;omega,(h2 k hk).2⟩
theorem Grows.mono{O O1:Nat→Prop}{W A B:World}(h:Grows O W O1 A)(hs:A.heap.size≤B.heap.size):Grows O W O1 B:=fun k hk=>⟨(h k hk).1,Nat.lt_of_lt_of_le (h k hk).2 hs⟩
variable {F:Fence} {n:Nat} {P:Program}
def SeqF {α:Type} (F:Fence) (n:Nat) (P:Program) (g:Nat) (lb:Array Value) (encs:α→Array Value) (xs:List α) (M:Nat→Prop) (w0:World):Prop:=
  ∀ (l:Nat) (J Jx:List α→(Nat→Prop)→World→Prop) (O:Nat→Prop) (W:World),Off M w0 W→(∀k,O k→(M k∨w0.heap.size≤k)∧k<W.heap.size)→Foot J→Foot Jx→
    (∀pre x O1 W1,pre++ [x]<+:xs→J pre O1 W1→Off O W W1→Grows O W O1 W1→YieldAt F (n-1) P l (encs x) W1 fun e W'=>Off O1 W1 W'∧∃O2,Grows O1 W1 O2 W'∧
      ((e= .returned (.bool true)∧J (pre++ [x]) O2 W')∨(e= .returned (.bool false)∧Jx (pre++ [x]) O2 W')))→
    J [] O W→
    CallsIn F n P g (#[.func (.yield l) #[] #[]]++lb) W fun e W'=>(∃v,e= .returned v)∧Off O W W'∧∃O2,Grows O W O2 W'∧(J xs O2 W'∨∃pre,pre<+:xs∧Jx pre O2 W')
def footPost {α:Type} (I:List α→(Nat→Prop)→World→Prop) (Ix:Code→List α→(Nat→Prop)→World→Prop) (O:Nat→Prop) (xs:List α) (W:World):Exit→Act→World→Prop
  | .normal,_,W'=>Off O W W'∧∃O2,Grows O W O2 W'∧I xs O2 W'
  | .ret,_,W'=>Off O W W'∧∃O2,Grows O W O2 W'∧Ix .ret xs O2 W'
  | .exit id,_,W'=>Off O W W'∧∃O2,Grows O W O2 W'∧Ix (.exit id) xs O2 W'
  | .goto t,_,W'=>Off O W W'∧∃O2,Grows O W O2 W'∧Ix (.goto t) xs O2 W'
  | .panic _,_,_=>False
  | .outgrown,_,_=>False
theorem wpIn_rangeFunc_f {α : Type} {g : Operand} {ps:Array Tmp} {assign body:Code} {Q:Exit→Act→World→Prop} {a:Act} {w:World}
    (hro:F.round=none) (h1:1≤n) {gf:Nat} {lb:Array Value} (hg:a.eval g= .func (.func gf) #[] lb) (hFg:F.fn gf) (eg: ∀args w,(callFunc gf args).run P w= .ok (.enter gf args) w)
    {encs:α→Array Value} {xs:List α} {M:Nat→Prop} {w0:World} (hseq:SeqF F (n-1) P gf lb encs xs M w0) (hb0:Off M w0 w) (hps: ∀x,(encs x).size=ps.size)
    (I:List α→(Nat→Prop)→World→Prop) (Ix:Code→List α→(Nat→Prop)→World→Prop) (hI:Foot I) (hIx: ∀c,Foot (Ix c)) {O:Nat→Prop} (hO: ∀k,O k→(M k∨w0.heap.size≤k)∧k<w.heap.size) (h0:I [] O w)
    (Ax:α→Nat→Act→World→Prop) (hAx: ∀x B a' W W',Ax x B a' W→Off (fun k=>k<B) W W'→Ax x B a' W')
    (hassign: ∀(l:Nat) (x:α) (W:World) (K:Act→World→Prop),(∀a' W',Below W.heap.size W W'→Ax x W.heap.size a' W'→K a' W')→
      assign.wpIn (F.inRound l) (n-1-1) P (Exit.then K (fun _ _ _=>False)) {tmps:=(ps.zip (encs x)).foldl (fun t (p,v)=>t.setIfInBounds p v) a.tmps,defers:= []} W)
    (hbody: ∀(l:Nat) (pre:List α) (x:α) (a':Act) (B:Nat) (O1:Nat→Prop) (W:World),pre++ [x]<+:xs→I pre O1 W→(∀k,O1 k→k<B)→B≤W.heap.size→Off O w W→Grows O w O1 W→Ax x B a' W→
      body.wpIn (F.inRound l) (n-1-1) P (footPost I Ix O1 (pre++ [x]) W) a' W)
    (hdone: ∀(D:Nat) (O2:Nat→Prop) (W:World),w.heap.size≤D→Off O w W→Grows O w O2 W→¬O2 D→I xs O2 W→W.heap[D]? =some (.deferred (some []))→Q .normal {a with defers:= {target:=.collected D,args:= #[]}::a.defers} W)
    (hstop: ∀(D:Nat) (c:Code) (pre:List α) (O2:Nat→Prop) (W:World),w.heap.size≤D→Off O w W→Grows O w O2 W→¬O2 D→pre<+:xs→Ix c pre O2 W→W.heap[D]? =some (.deferred (some []))→c.wpIn F n P Q {a with defers:= {target:=.collected D,args:= #[]}::a.defers} W):
    (Code.rangeFunc g ps assign body).wpIn F n P Q a w:=by
  refine wpIn_rangeFunc ?_
  intro fn hfn
  rw[hro];obtain⟨rec,hrec⟩: ∃rec:LoopState→Option Code→Loop,rec=fun st pe=> {state:=st,pending:=pe,fn,tmps:=a.tmps,params:=ps,assign,body,defers:=w.heap.size}:=⟨_,rfl⟩;obtain⟨W1,hW1⟩: ∃W1,(w.alloc (.deferred (some []))).alloc (.loop (rec .ready none))=W1:=⟨_,rfl⟩
  have hL1:W1.heap[w.heap.size+1]? =some (.loop (rec .ready none)):=by
    rw[←hW1];have:=World.alloc_heap_new (w.alloc (.deferred (some []))) (.loop (rec .ready none));rwa [World.size_alloc] at this
  have hK1:W1.heap[w.heap.size]? =some (.deferred (some [])):=by
    rw[←hW1];exact(Below.heap_alloc _ _ _ (by simp)).trans (World.alloc_heap_new w _)
  have hs1:W1.heap.size=w.heap.size+1+1:=by rw[←hW1];simp
  have hbw:Below w.heap.size w W1:=by
    rw[←hW1];exact((Below.refl _ w).alloc (Nat.le_refl _) _).alloc (by simp) _
  have hI1:I [] O W1:=hI _ _ _ _ h0 (off_of hbw);have hb1:Off M w0 W1:=hb0.step hbw
  refine⟨w.heap.size+1, [{target:=.collected w.heap.size,args:= #[]}],W1,{target:=.fn (.func gf) lb,args:= #[.func (.yield (w.heap.size+1)) #[] #[]]},W1,gf,
    #[.func (.yield (w.heap.size+1)) #[] #[]]++lb,W1,?_,?_,?_,?_,fun _=>h1,?_⟩
  ·rw[←hW1,hrec];exact run_enterLoop_outer _ _ _ _ _
  · simp only[resolve,hg]
    simp[go_sem]
  ·intro f' hf';simp[Target.leads] at hf';subst hf';exact hFg
  ·simp[invoke,go_sem,eg]
  · have hlift : ∀ {OJ OI : Nat → Prop} {A B : World},(∀k,OJ k↔OI k∨k=w.heap.size∨k=w.heap.size+1)→Off (fun k=> ¬OJ k) A B→Off (fun k=> ¬OI k) A B:=
      fun hk h=>h.mono (fun k _ hm hi=>hm ((hk k).2 (.inl hi)))
    refine(hseq (w.heap.size+1)
      (fun pre OJ W=> ∃OI:Nat→Prop,(∀k,OJ k↔OI k∨k=w.heap.size∨k=w.heap.size+1)∧¬OI w.heap.size∧¬OI (w.heap.size+1)∧I pre OI W∧W.heap[w.heap.size+1]? =some (.loop (rec .ready none))∧W.heap[w.heap.size]? =some (.deferred (some [])))
      (fun pre OJ W=> ∃(OI:Nat→Prop) (c:Code),(∀k,OJ k↔OI k∨k=w.heap.size∨k=w.heap.size+1)∧¬OI w.heap.size∧¬OI (w.heap.size+1)∧Ix c pre OI W∧W.heap[w.heap.size+1]? =some (.loop (rec .done (some c)))∧W.heap[w.heap.size]? =some (.deferred (some [])))
      (fun k=>O k∨k=w.heap.size∨k=w.heap.size+1) W1 hb1
      (fun k hk=>by
        have h2:=hb0.size
        rcases hk with hk|rfl|rfl
        ·exact⟨(hO k hk).1,by have:=(hO k hk).2;omega⟩
        ·exact⟨.inr (by omega),by omega⟩
        ·exact⟨.inr (by omega),by omega⟩)
      (fun s OJ A B hs hoff=>by
        obtain⟨OI,e,n1,n2,hi,hl,hd⟩:=hs
        exact⟨OI,e,n1,n2,hI _ _ _ _ hi (hlift e hoff),hoff.at hl (fun hm=>hm ((e _).2 (.inr (.inr rfl)))),hoff.at hd (fun hm=>hm ((e _).2 (.inr (.inl rfl))))⟩)
      (fun s OJ A B hs hoff=>by
        obtain⟨OI,c,e,n1,n2,hi,hl,hd⟩:=hs
        exact⟨OI,c,e,n1,n2,hIx c _ _ _ _ hi (hlift e hoff),hoff.at hl (fun hm=>hm ((e _).2 (.inr (.inr rfl)))),hoff.at hd (fun hm=>hm ((e _).2 (.inr (.inl rfl))))⟩)
      ?_ ⟨O,fun _=>Iff.rfl,fun hm=>by have:=hO _ hm;omega,fun hm=>by have:=hO _ hm;omega,hI1,hL1,hK1⟩).mono ?_
    · -- one round
      rintro pre x OJ W hpre ⟨OI,eO,n1,n2,hi,hl,hk⟩ hoW hgW;have hlt: ∀k,OJ k→k<W.heap.size:=fun k hk=>(hgW k hk).2;have hls:w.heap.size+1<W.heap.size:=(Array.getElem?_eq_some_iff.1 hl).1
      have hy:=run_yield (P:=P) (args:=encs x) hl (by rw[hrec];exact hps x)
      rw[hrec] at hy
      refine⟨fn,_,assign,body,hy,roundIn_of_wpIn hfn (hassign _ x W _ ?_)⟩
      clear hy
      intro a' Wa hba hax
      have hla:=(off_of (M:=fun _=>False) hba).at hl (fun e=>e);have hka:=(off_of (M:=fun _=>False) hba).at hk (fun e=>e);have hia:=hI _ _ _ _ hi (off_of hba);have hsa:w.heap.size+1<Wa.heap.size:=Nat.lt_of_lt_of_le hls hba.size
      refine⟨_,run_beginRound hla (by rw[hrec]),?_⟩
      have hl2:(Wa.putObj (w.heap.size+1) (.loop {rec .ready none with state:=.busy})).heap[w.heap.size+1]? =some (.loop {rec .ready none with state:=.busy}):=World.putObj_heap_same hsa
      have hk2:(Wa.putObj (w.heap.size+1) (.loop {rec .ready none with state:=.busy})).heap[w.heap.size]? =some (.deferred (some [])):=(World.putObj_heap_other (by omega)).trans hka
      have hob:Off OJ W (Wa.putObj (w.heap.size+1) (.loop {rec .ready none with state:=.busy})):=(off_of hba).putObj ((eO _).2 (.inr (.inr rfl))) _;have hib:=hI _ _ _ _ hia ((Off.refl (fun k=> ¬OI k) Wa).putObj (l:=w.heap.size+1) n2 (.loop {rec .ready none with state:=.busy}));have hab:=hAx _ _ _ _ _ hax ((Off.refl (fun k=>k<W.heap.size) Wa).putObj (l:=w.heap.size+1) hls (.loop {rec .ready none with state:=.busy}))
      have hsz:(Wa.putObj (w.heap.size+1) (.loop {rec .ready none with state:=.busy})).heap.size=Wa.heap.size:=World.putObj_size
      have hob0:Off O w (Wa.putObj (w.heap.size+1) (.loop {rec .ready none with state:=.busy})):=by
        have h0:=(hoW.trans (off_of hba)).putObj (l:=w.heap.size+1) (.inr (.inr rfl)) (.loop {rec .ready none with state:=.busy})
        refine⟨h0.os.trans hbw.os,h0.tape.trans hbw.tape,h0.output.trans hbw.output,Nat.le_trans hbw.size h0.size,fun k hk' hm=>(h0.block k (by omega) (fun hh=>by
          rcases hh with h|rfl|rfl
          ·exact hm h
          ·omega
          ·omega)).trans (hbw.block k hk')⟩
      have hgb0:Grows O w OI (Wa.putObj (w.heap.size+1) (.loop {rec .ready none with state:=.busy})):=by
        intro k hk'
        have hh:=hgW k ((eO k).2 (.inl hk'));have hs2:=hba.size
        refine⟨?_,by rw[hsz];omega⟩
        rcases hh.1 with(h|rfl|rfl)|h
        ·exact .inl h
        ·right;omega
        ·right;omega
        ·right;omega
      refine wpIn_mono (hbody _ pre x a' W.heap.size OI _ hpre hib (fun k hk'=>hlt k ((eO k).2 (.inl hk'))) (by rw[hsz];exact hba.size) hob0 hgb0 hab) ?_
      clear hob0 hgb0;generalize Wa.putObj (w.heap.size+1) (.loop {rec .ready none with state:=.busy})=Wb at hl2 hk2 hob hib hab hsz⊢;have fin: ∀(jump:Option Code) (W3:World) (O2:Nat→Prop),Off OI Wb W3→Grows OI Wb O2 W3→
          ((Instr.endRound (w.heap.size+1) jump).run P W3= .ok (.bool jump.isNone) (W3.putObj (w.heap.size+1) (.loop (rec (if jump.isNone then .ready else .done) jump))))∧
          Off OJ W (W3.putObj (w.heap.size+1) (.loop (rec (if jump.isNone then .ready else .done) jump)))∧
          Grows OJ W (fun k=>O2 k∨k=w.heap.size∨k=w.heap.size+1) (W3.putObj (w.heap.size+1) (.loop (rec (if jump.isNone then .ready else .done) jump)))∧
          ¬O2 w.heap.size∧¬O2 (w.heap.size+1)∧
          (W3.putObj (w.heap.size+1) (.loop (rec (if jump.isNone then .ready else .done) jump))).heap[w.heap.size+1]? =some (.loop (rec (if jump.isNone then .ready else .done) jump))∧
          (W3.putObj (w.heap.size+1) (.loop (rec (if jump.isNone then .ready else .done) jump))).heap[w.heap.size]? =some (.deferred (some [])):=fun jump W3 O2 ho hg=>by
        have hl3:=ho.at hl2 n2;have hr:=run_endRound (P:=P) jump hl3;have hs3:=(Array.getElem?_eq_some_iff.1 hl3).1;have hsb:=hba.size
        refine⟨by rw[hrec] at hr⊢;exact hr,?_,?_,?_,?_,World.putObj_heap_same hs3,(World.putObj_heap_other (by omega)).trans (ho.at hk2 n1)⟩
        ·exact(hob.trans (ho.mono (fun k _ hm=>(eO k).2 (.inl hm)))).putObj ((eO _).2 (.inr (.inr rfl))) _
        · rintro k (hk'|rfl|rfl)
          · have hh:=hg k hk'
            refine⟨?_,by simpa using hh.2⟩
            rcases hh.1 with h|h
            ·exact .inl ((eO k).2 (.inl h))
            ·right;omega
          ·exact⟨.inl ((eO _).2 (.inr (.inl rfl))),by simp;omega⟩
          ·exact⟨.inl ((eO _).2 (.inr (.inr rfl))),by simpa using hs3⟩
        · intro hm
          rcases(hg _ hm).1 with h|h
          ·exact n1 h
          ·omega
        · intro hm
          rcases(hg _ hm).1 with h|h
          ·exact n2 h
          ·omega
      have stepI: ∀(jump:Option Code) (W3:World) (O2:Nat→Prop) {β:Type} {J:β→(Nat→Prop)→World→Prop} {s:β},Foot J→¬O2 (w.heap.size+1)→J s O2 W3→J s O2 (W3.putObj (w.heap.size+1) (.loop (rec (if jump.isNone then .ready else .done) jump))):=
        fun jump W3 O2 β J s hJ hn h=>hJ _ _ _ _ h ((Off.refl (fun k=> ¬O2 k) W3).putObj (l:=w.heap.size+1) hn _)
      rintro e a3 W3 hp
      cases e with
      | normal=>
        obtain⟨ho,O2,hg,hi3⟩:=hp;obtain⟨hr,h2,h3,m1,m2,h4,h5⟩:=fin none W3 O2 ho hg
        exact⟨_,_,hr,h2,_,h3,.inl ⟨rfl,O2,fun _=>Iff.rfl,m1,m2,stepI none W3 O2 hI m2 hi3,h4,h5⟩⟩
      | ret=>
        obtain⟨ho,O2,hg,hi3⟩:=hp;obtain⟨hr,h2,h3,m1,m2,h4,h5⟩:=fin (some .ret) W3 O2 ho hg
        exact⟨_,_,hr,h2,_,h3,.inr ⟨rfl,O2,.ret,fun _=>Iff.rfl,m1,m2,stepI (some .ret) W3 O2 (hIx _) m2 hi3,h4,h5⟩⟩
      | exit id=>
        obtain⟨ho,O2,hg,hi3⟩:=hp;obtain⟨hr,h2,h3,m1,m2,h4,h5⟩:=fin (some (.exit id)) W3 O2 ho hg
        exact⟨_,_,hr,h2,_,h3,.inr ⟨rfl,O2,.exit id,fun _=>Iff.rfl,m1,m2,stepI (some (.exit id)) W3 O2 (hIx _) m2 hi3,h4,h5⟩⟩
      | goto t=>
        obtain⟨ho,O2,hg,hi3⟩:=hp;obtain⟨hr,h2,h3,m1,m2,h4,h5⟩:=fin (some (.goto t)) W3 O2 ho hg
        exact⟨_,_,hr,h2,_,h3,.inr ⟨rfl,O2,.goto t,fun _=>Iff.rfl,m1,m2,stepI (some (.goto t)) W3 O2 (hIx _) m2 hi3,h4,h5⟩⟩
      |panic ch=>exact hp.elim
      |outgrown=>exact hp.elim
    · -- behind the iterator
      have fin : ∀ (W2 : World) (OJ OI : Nat → Prop) (st:LoopState) (pe:Option Code) (x:Obj),Off (fun k=>O k∨k=w.heap.size∨k=w.heap.size+1) W1 W2→Grows (fun k=>O k∨k=w.heap.size∨k=w.heap.size+1) W1 OJ W2→
          (∀k,OJ k↔OI k∨k=w.heap.size∨k=w.heap.size+1)→Off O w (W2.putObj (w.heap.size+1) x)∧Grows O w OI (W2.putObj (w.heap.size+1) x):=by
        intro W2 OJ OI st pe x ho hg e
        refine⟨⟨?_,?_,?_,?_,?_⟩,?_⟩
        ·exact(show(W2.putObj _ x).os=W2.os from rfl).trans (ho.os.trans hbw.os)
        ·exact(show(W2.putObj _ x).tape=W2.tape from rfl).trans (ho.tape.trans hbw.tape)
        ·exact(show(W2.putObj _ x).output=W2.output from rfl).trans (ho.output.trans hbw.output)
        ·have:=ho.size;have:=hbw.size;simp;omega
        · intro k hk' hm
          rw[World.putObj_heap_other (by omega)]
          exact (ho.block k (by omega) (fun hh => by rcases hh with h|rfl|rfl
                                                     ·exact hm h
                                                     ·omega
                                                     ·omega)).trans (hbw.block k hk')
        · intro k hk'
          have hh:=hg k ((e k).2 (.inl hk'))
          refine⟨?_,by simpa using hh.2⟩
          rcases hh.1 with(h|rfl|rfl)|h
          ·exact .inl h
          ·right;omega
          ·right;omega
          ·right;omega
      rintro e W2 ⟨⟨v,rfl⟩,ho,OJ,hg,(⟨OI,eO,n1,n2,hi,hl,hk⟩|⟨pre,hpre,OI,c,eO,n1,n2,hi,hl,hk⟩)⟩
      · obtain⟨f1,f2⟩:=fin W2 OJ OI .exhausted none (.loop {rec .ready none with state:=.exhausted}) ho hg eO
        exact⟨none,_,by have:=run_endLoop (P:=P) hl (by rw[hrec];simp);rw[hrec] at this⊢;exact this,
          hdone _ OI _ (Nat.le_refl _) f1 f2 n1 (hI _ _ _ _ hi ((Off.refl (fun k=> ¬OI k) W2).putObj (l:=w.heap.size+1) n2 _)) ((World.putObj_heap_other (by omega)).trans hk)⟩
      · obtain⟨f1,f2⟩:=fin W2 OJ OI .exhausted none (.loop {rec .done (some c) with state:=.exhausted}) ho hg eO
        exact⟨some c,_,by have:=run_endLoop (P:=P) hl (by rw[hrec];simp);rw[hrec] at this⊢;exact this,
          hstop _ c pre OI _ (Nat.le_refl _) f1 f2 n1 hpre (hIx c _ _ _ _ hi ((Off.refl (fun k=> ¬OI k) W2).putObj (l:=w.heap.size+1) n2 _)) ((World.putObj_heap_other (by omega)).trans hk)⟩
end Go.Proofs.YtinmmkcjjlconaaGreat
namespace Lp
def S:Nat→(Nat→Rat)→Rat
  |0,_=>0
  |n+1,f=>S n f+f n
theorem S_zero(f:Nat→Rat):S 0 f=0:=rfl
theorem S_succ(n:Nat)(f:Nat→Rat):S (n+1) f=S n f+f n:=rfl
theorem S_congr {n:Nat} {f g:Nat→Rat} (h: ∀k,k<n→f k=g k):S n f=S n g:=by
 induction n with
 |zero=>rfl
 |succ n ih=>rw[S_succ,S_succ,ih fun k hk=>h k (by omega),h n (by omega)]
theorem S_eq0 {n:Nat} {f:Nat→Rat} (h: ∀k,k<n→f k=0):S n f=0:=by
 induction n with
 |zero=>rfl
 |succ n ih=>rw[S_succ,ih fun k hk=>h k (by omega),h n (by omega),Rat.add_zero]
theorem S_add (n:Nat) (f g:Nat→Rat):S n (fun k=>f k+g k)=S n f+S n g:=by
 induction n with
 |zero=>simp[S_zero,Rat.add_zero]
 |succ n ih=>rw[S_succ,S_succ,S_succ,ih];grind
theorem S_mul (n:Nat) (c:Rat) (f:Nat→Rat):S n (fun k=>c*f k)=c*S n f:=by
 induction n with
 |zero=>simp[S_zero,Rat.mul_zero]
 |succ n ih=>rw[S_succ,S_succ,ih];grind
theorem S_mulr (n:Nat) (c:Rat) (f:Nat→Rat):S n (fun k=>f k*c)=S n f*c:=by
 rw[S_congr (g:=fun k=>c*f k) fun k _=>Rat.mul_comm _ _,S_mul,Rat.mul_comm]
theorem S_neg (n:Nat) (f:Nat→Rat):S n (fun k=> -f k)= -S n f:=by
 induction n with
 |zero=>simp[S_zero]
 |succ n ih=>rw[S_succ,S_succ,ih];grind
theorem S_sub (n:Nat) (f g:Nat→Rat):S n (fun k=>f k-g k)=S n f-S n g:=by
 induction n with
 |zero=>simp[S_zero,Rat.sub_eq_add_neg,Rat.add_zero]
 |succ n ih=>rw[S_succ,S_succ,S_succ,ih];grind
theorem S_swap (m n:Nat) (f:Nat→Nat→Rat):S m (fun i=>S n (fun j=>f i j))=S n (fun j=>S m (fun i=>f i j)):=by
 induction m with
 |zero=>rw[S_zero,S_eq0];intro k _;rfl
 |succ m ih=>rw[S_succ,ih,←S_add];apply S_congr;intro k _;rw[S_succ]
theorem S_single {n:Nat} {f:Nat→Rat} {k:Nat} (hk:k<n) (h: ∀j,j<n→j≠k→f j=0):S n f=f k:=by
 induction n with
 |zero=>omega
 | succ n ih=>
  rw[S_succ]
  by_cases e:k=n
  ·subst e
   rw[S_eq0 fun j hj=>h j (by omega) (by omega),Rat.zero_add]
  ·rw[ih (by omega) fun j hj hne=>h j (by omega) hne,h n (by omega) (by omega),Rat.add_zero]
theorem S_split {n:Nat} {f:Nat→Rat} {k:Nat} (hk:k<n):S n f=f k+S n (fun j=>if j=k then 0 else f j):=by
 have h1:S n f=S n (fun j=>(if j=k then f j else 0)+(if j=k then 0 else f j)):=by
  apply S_congr;intro j _;split
  ·rw[Rat.add_zero]
  ·rw[Rat.zero_add]
 rw[h1,S_add,S_single (k:=k) hk]
 ·rw[if_pos rfl]
 ·intro j _ hne;rw[if_neg hne]
theorem S_le {n:Nat} {f g:Nat→Rat} (h: ∀k,k<n→f k≤g k):S n f≤S n g:=by
 induction n with
 |zero=>exact Rat.le_refl
 |succ n ih=>
  rw[S_succ,S_succ]
  have h1:=ih fun k hk=>h k (by omega)
  have h2:=h n (by omega)
  exact Rat.le_trans (Rat.add_le_add_right.2 h1) (Rat.add_le_add_left.2 h2)
theorem S_nonneg {n:Nat} {f:Nat→Rat} (h: ∀k,k<n→0≤f k):0≤S n f:=by
 have:=S_le (n:=n) (f:=fun _=>0) (g:=f) h
 rwa [S_eq0 (f:=fun _=>0) fun _ _=>rfl] at this
theorem S_append (m n:Nat) (f:Nat→Rat):S (m+n) f=S m f+S n (fun k=>f (m+k)):=by
 induction n with
 |zero=>rw[S_zero,Nat.add_zero,Rat.add_zero]
 |succ n ih=>rw[←Nat.add_assoc,S_succ,ih,S_succ,Rat.add_assoc]
theorem exists_neg {n:Nat} {f:Nat→Rat} (h:S n f<0): ∃k,k<n∧f k<0:=by
 apply Classical.byContradiction
 intro hc
 have h1:0≤S n f:=S_nonneg fun k hk=>Rat.not_lt.1 fun hlt=>hc ⟨k,hk,hlt⟩
 exact Rat.not_lt.2 h1 h
end Lp
namespace Lp
structure Tab where
  a:Nat→Nat→Rat
  b:Nat→Rat
  bas:Nat→Nat
  c:Nat→Rat
  v:Rat
structure Inv (m N:Nat) (T:Tab):Prop where
  bas: ∀i,i<m→T.bas i<N
  unit: ∀i k,i<m→k<m→T.a i (T.bas k)=if i=k then 1 else 0
  cost: ∀k,k<m→T.c (T.bas k)=0
theorem Inv.inj {m N:Nat} {T:Tab} (h:Inv m N T) {i k:Nat} (hi:i<m) (hk:k<m) (e:T.bas i=T.bas k):i=k:=by
 have h1:=h.unit i i hi hi;have h2:=h.unit i k hi hk;rw[←e,h1] at h2
 by_cases hik:i=k
 ·exact hik
 ·rw[if_pos rfl,if_neg hik] at h2;exact absurd h2 (by decide)
def Sol(m N:Nat)(T:Tab)(x:Nat→Rat)(z:Rat):Prop:=(∀i,i<m→S N (fun j=>T.a i j*x j)=T.b i)∧z=T.v+S N (fun j=>T.c j*x j)
def Bas(m:Nat)(T:Tab)(j:Nat):Prop:= ∃i,i<m∧T.bas i=j
def pivot (T:Tab) (r s:Nat):Tab where
  a i j:=if i=r then T.a r j/T.a r s else T.a i j-T.a i s*(T.a r j/T.a r s)
  b i:=if i=r then T.b r/T.a r s else T.b i-T.a i s*(T.b r/T.a r s)
  bas i:=if i=r then s else T.bas i
  c j:=T.c j-T.c s*(T.a r j/T.a r s)
  v:=T.v+T.c s*(T.b r/T.a r s)
theorem div_self{a:Rat}(h:a≠0):a/a=1:=by rw[Rat.div_def];exact Rat.mul_inv_cancel a h
theorem div_mul_cancel'{a b:Rat}(h:b≠0):b*(a/b)=a:=by rw[Rat.mul_comm];exact Rat.div_mul_cancel h
theorem zero_div(a:Rat):0/a=0:=by rw[Rat.div_def,Rat.zero_mul]
theorem S_div (n:Nat) (f:Nat→Rat) (p:Rat):S n (fun j=>f j/p)=S n f/p:=by
 rw[Rat.div_def,←S_mulr]
 exact S_congr fun k _=>Rat.div_def _ _
theorem pivot_inv {m N:Nat} {T:Tab} (h:Inv m N T) {r s:Nat} (hr:r<m) (hs:s<N) (hp:T.a r s≠0) (hn: ¬Bas m T s):Inv m N (pivot T r s):=by
 have hne: ∀i,i<m→T.bas i≠s:=fun i hi e=>hn ⟨i,hi,e⟩
 refine⟨fun i hi=>?_,fun i k hi hk=>?_,fun k hk=>?_⟩
 ·simp only[pivot];split
  ·exact hs
  ·exact h.bas i hi
 ·simp only[pivot]
  by_cases hkr:k=r
  ·rw[if_pos hkr,hkr]
   by_cases hir:i=r
   ·rw[if_pos hir,div_self hp,if_pos hir]
   ·rw[if_neg hir,div_self hp,if_neg hir];grind
  ·rw[if_neg hkr]
   have e1:=h.unit r k hr hk;rw[if_neg (Ne.symm hkr)] at e1
   by_cases hir:i=r
   ·rw[if_pos hir,e1,zero_div,if_neg (fun e=>hkr (by omega))]
   ·rw[if_neg hir,e1,zero_div,Rat.mul_zero,h.unit i k hi hk];grind
 ·simp only[pivot]
  by_cases hkr:k=r
  ·rw[if_pos hkr,div_self hp];grind
  ·rw[if_neg hkr,h.cost k hk,h.unit r k hr hk,if_neg (Ne.symm hkr),zero_div];grind
theorem pivot_sol {m N:Nat} {T:Tab} {r s:Nat} (hr:r<m) (hp:T.a r s≠0) (x:Nat→Rat) (z:Rat):Sol m N (pivot T r s) x z↔Sol m N T x z:=by
 have row:S N (fun j=>T.a r j/T.a r s*x j)=S N (fun j=>T.a r j*x j)/T.a r s:=by
  rw[←S_div]
  exact S_congr fun j _=>by rw[Rat.div_def,Rat.div_def];grind
 have oth: ∀i,S N (fun j=>(T.a i j-T.a i s*(T.a r j/T.a r s))*x j)=S N (fun j=>T.a i j*x j)-T.a i s*(S N (fun j=>T.a r j*x j)/T.a r s):=by
  intro i
  rw[←row,←S_mul,←S_sub]
  exact S_congr fun j _=>by grind
 have cst:S N (fun j=>(T.c j-T.c s*(T.a r j/T.a r s))*x j)=S N (fun j=>T.c j*x j)-T.c s*(S N (fun j=>T.a r j*x j)/T.a r s):=by
  rw[←row,←S_mul,←S_sub]
  exact S_congr fun j _=>by grind
 constructor
 ·rintro ⟨h1,h2⟩
  have hrr:S N (fun j=>T.a r j*x j)=T.b r:=by
   have h3:=h1 r hr
   simp only[pivot,if_true] at h3
   rw[row] at h3
   have h4:S N (fun j=>T.a r j*x j)/T.a r s*T.a r s=T.b r/T.a r s*T.a r s:=by rw[h3]
   rwa [Rat.div_mul_cancel hp,Rat.div_mul_cancel hp] at h4
  refine⟨fun i hi=>?_,?_⟩
  ·by_cases hir:i=r
   ·rw[hir];exact hrr
   ·have h3:=h1 i hi
    simp only[pivot,if_neg hir] at h3
    rw[oth,hrr] at h3
    grind
  ·simp only[pivot] at h2
   rw[cst,hrr] at h2;rw[h2];grind
 ·rintro ⟨h1,h2⟩
  have hrr:=h1 r hr
  refine⟨fun i hi=>?_,?_⟩
  ·simp only[pivot]
   by_cases hir:i=r
   ·simp only[if_pos hir];rw[row,hrr]
   ·simp only[if_neg hir];rw[oth,hrr,h1 i hi]
  ·simp only[pivot]
   rw[cst,hrr,h2];grind
def ray(m:Nat)(T:Tab)(s:Nat)(y:Rat)(j:Nat):Rat:=(if j=s then y else 0)+S m (fun i=>if T.bas i=j then T.b i-T.a i s*y else 0)
theorem ray_bas {m N:Nat} {T:Tab} (h:Inv m N T) {s:Nat} (hn: ¬Bas m T s) (y:Rat) {i:Nat} (hi:i<m):ray m T s y (T.bas i)=T.b i-T.a i s*y:=by
 unfold ray;rw[if_neg (fun e=>hn ⟨i,hi,e⟩),Rat.zero_add,S_single (k:=i) hi]
 ·rw[if_pos rfl]
 ·intro k hk hne
  rw[if_neg (fun e=>hne (h.inj hk hi e))]
theorem ray_oth {m:Nat} {T:Tab} {s:Nat} (y:Rat) {j:Nat} (hj: ¬Bas m T j):ray m T s y j=if j=s then y else 0:=by
 unfold ray;rw[S_eq0,Rat.add_zero]
 intro i hi
 rw[if_neg (fun e=>hj ⟨i,hi,e⟩)]
theorem sum_ray {m N:Nat} {T:Tab} (h:Inv m N T) {s:Nat} (hs:s<N) (y:Rat) (f:Nat→Rat):
  S N (fun j=>f j*ray m T s y j)=f s*y+S m (fun i=>f (T.bas i)*(T.b i-T.a i s*y)):=by
 have e1:S N (fun j=>f j*ray m T s y j)=S N (fun j=>f j*(if j=s then y else 0))+S N (fun j=>S m (fun i=>f j*(if T.bas i=j then T.b i-T.a i s*y else 0))):=by
  rw[←S_add]
  refine S_congr fun j _=>?_
  unfold ray;rw[Rat.mul_add,S_mul]
 rw[e1,S_single (k:=s) hs,S_swap]
 ·rw[if_pos rfl]
  congr 1
  refine S_congr fun i hi=>?_
  rw[S_single (k:=T.bas i) (h.bas i hi)]
  ·rw[if_pos rfl]
  ·intro j _ hne
   rw[if_neg (fun e=>hne e.symm),Rat.mul_zero]
 ·intro j _ hne
  rw[if_neg hne,Rat.mul_zero]
theorem ray_sol {m N:Nat} {T:Tab} (h:Inv m N T) {s:Nat} (hs:s<N) (y:Rat):Sol m N T (ray m T s y) (T.v+T.c s*y):=by
 refine⟨fun i hi=>?_,?_⟩
 ·rw[sum_ray h hs,S_single (k:=i) hi]
  ·rw[h.unit i i hi hi,if_pos rfl];grind
  ·intro k hk hne
   rw[h.unit i k hi hk,if_neg (Ne.symm hne),Rat.zero_mul]
 ·rw[sum_ray h hs,S_eq0,Rat.add_zero]
  intro i hi
  rw[h.cost i hi,Rat.zero_mul]
def Eqv(m N:Nat)(T U:Tab):Prop:= ∀x z,Sol m N T x z↔Sol m N U x z
structure Step (m N:Nat) (ord:Nat→Nat) (al:Nat→Prop) (T:Tab) (r s:Nat):Prop where
  hr:r<m
  hs:s<N
  als:al s
  cs:0<T.c s
  least: ∀j,j<N→al j→ord j<ord s→T.c j≤0
  ars:0<T.a r s
  ratio: ∀i,i<m→0<T.a i s→T.b r*T.a i s≤T.b i*T.a r s
  tie: ∀i,i<m→0<T.a i s→T.b r*T.a i s=T.b i*T.a r s→ord (T.bas r)≤ord (T.bas i)
theorem Step.nb {m N:Nat} {ord:Nat→Nat} {al:Nat→Prop} {T:Tab} {r s:Nat} (h:Step m N ord al T r s) (hI:Inv m N T): ¬Bas m T s:=by
 rintro ⟨i,hi,e⟩;have:=h.cs;rw[←e,hI.cost i hi] at this
 exact Rat.lt_irrefl this
theorem Step.inv {m N:Nat} {ord:Nat→Nat} {al:Nat→Prop} {T:Tab} {r s:Nat} (h:Step m N ord al T r s) (hI:Inv m N T):Inv m N (pivot T r s):=
 pivot_inv hI h.hr h.hs (Rat.ne_of_gt h.ars) (h.nb hI)
theorem div_nonneg {a b:Rat} (ha:0≤a) (hb:0<b):0≤a/b:=by
 rw[Rat.div_def];exact Rat.mul_nonneg ha (Rat.le_of_lt (Rat.inv_pos.2 hb))
theorem Step.pos {m N:Nat} {ord:Nat→Nat} {al:Nat→Prop} {T:Tab} {r s:Nat} (h:Step m N ord al T r s) (hb: ∀i,i<m→0≤T.b i): ∀i,i<m→0≤(pivot T r s).b i:=by
 intro i hi
 have hq:=div_nonneg (hb r h.hr) h.ars
 simp only[pivot]
 split
 ·exact hq
 ·rcases Classical.em (0<T.a i s) with hp|hp
  ·have h1:=h.ratio i hi hp
   have h2:T.a i s*(T.b r/T.a r s)≤T.b i:=by
    have h3:T.a i s*(T.b r/T.a r s)*T.a r s≤T.b i*T.a r s:=by
     rw[Rat.mul_assoc,Rat.div_mul_cancel (Rat.ne_of_gt h.ars),Rat.mul_comm];exact h1
    exact Rat.le_of_mul_le_mul_right h3 h.ars
   rw[←Rat.le_iff_sub_nonneg];exact h2
  ·have h1:T.a i s≤0:=Rat.not_lt.1 hp
   have h2:T.a i s*(T.b r/T.a r s)≤0:=by
    have:=Rat.mul_le_mul_of_nonneg_right h1 hq
    rwa [Rat.zero_mul] at this
   rw[←Rat.le_iff_sub_nonneg];exact Rat.le_trans h2 (hb i hi)
theorem Step.val {m N:Nat} {ord:Nat→Nat} {al:Nat→Prop} {T:Tab} {r s:Nat} (h:Step m N ord al T r s) (hb: ∀i,i<m→0≤T.b i):T.v≤(pivot T r s).v:=by
 simp only[pivot]
 have:=Rat.mul_nonneg (Rat.le_of_lt h.cs) (div_nonneg (hb r h.hr) h.ars);have:=Rat.add_le_add_left (c:=T.v).2 this
 rwa [Rat.add_zero] at this
end Lp
namespace Lp
section
variable {m N:Nat} {ord:Nat→Nat} {al:Nat→Prop}
def bsol(m:Nat)(T:Tab)(j:Nat):Rat:=S m (fun i=>if T.bas i=j then T.b i else 0)
theorem bsol_bas {T:Tab} (h:Inv m N T) {i:Nat} (hi:i<m):bsol m T (T.bas i)=T.b i:=by
 unfold bsol;rw[S_single (k:=i) hi]
 ·rw[if_pos rfl]
 ·intro k hk hne
  rw[if_neg (fun e=>hne (h.inj hk hi e))]
theorem bsol_oth {T:Tab} {j:Nat} (hj: ¬Bas m T j):bsol m T j=0:=by
 unfold bsol;rw[S_eq0]
 intro i hi
 rw[if_neg (fun e=>hj ⟨i,hi,e⟩)]
theorem sum_bsol {T:Tab} (h:Inv m N T) (f:Nat→Rat):S N (fun j=>f j*bsol m T j)=S m (fun i=>f (T.bas i)*T.b i):=by
 have e1:S N (fun j=>f j*bsol m T j)=S N (fun j=>S m (fun i=>f j*(if T.bas i=j then T.b i else 0))):=
  S_congr fun j _=>by unfold bsol;rw[S_mul]
 rw[e1,S_swap]
 refine S_congr fun i hi=>?_
 rw[S_single (k:=T.bas i) (h.bas i hi)]
 ·rw[if_pos rfl]
 ·intro j _ hne
  rw[if_neg (fun e=>hne e.symm),Rat.mul_zero]
theorem bsol_sol {T:Tab} (h:Inv m N T):Sol m N T (bsol m T) T.v:=by
 refine⟨fun i hi=>?_,?_⟩
 ·rw[sum_bsol h,S_single (k:=i) hi]
  ·rw[h.unit i i hi hi,if_pos rfl,Rat.one_mul]
  ·intro k hk hne
   rw[h.unit i k hi hk,if_neg (Ne.symm hne),Rat.zero_mul]
 ·rw[sum_bsol h,S_eq0,Rat.add_zero]
  intro i hi
  rw[h.cost i hi,Rat.zero_mul]
theorem val_of {T:Tab} (h:Inv m N T) {x:Nat→Rat} {z:Rat} (hs:Sol m N T x z) (h0: ∀j,j<N→¬Bas m T j→x j=0):z=T.v:=by
 rw[hs.2,S_eq0,Rat.add_zero]
 intro j hj
 rcases Classical.em (Bas m T j) with⟨i,hi,e⟩|hn
 ·rw[←e,h.cost i hi,Rat.zero_mul]
 ·rw[h0 j hj hn,Rat.mul_zero]
structure Run (m N:Nat) (ord:Nat→Nat) (al:Nat→Prop) (T:Nat→Tab) (r s:Nat→Nat) (k:Nat):Prop where
  inv: ∀i,i≤k→Inv m N (T i)
  pos: ∀i,i≤k→∀l,l<m→0≤(T i).b l
  step: ∀i,i<k→Step m N ord al (T i) (r i) (s i)
  next: ∀i,i<k→T (i+1)=pivot (T i) (r i) (s i)
variable {T:Nat→Tab} {r s:Nat→Nat} {k:Nat}
theorem Run.eqv (h:Run m N ord al T r s k): ∀i,i≤k→Eqv m N (T i) (T 0)
 |0,_=>fun _ _=>Iff.rfl
 |i+1,hi=>fun x z=>by
  have st:=h.step i (by omega)
  rw[h.next i (by omega),pivot_sol st.hr (Rat.ne_of_gt st.ars)]
  exact Run.eqv h i (by omega) x z
theorem Run.mono (h:Run m N ord al T r s k): ∀i j,i≤j→j≤k→(T i).v≤(T j).v:=by
  intro i j hij hj
  induction j with
  | zero => have:i=0:=by omega
            subst this;exact Rat.le_refl
  | succ j ih=>
    rcases Nat.eq_or_lt_of_le hij with e|hlt
    ·rw[e];exact Rat.le_refl
    · refine Rat.le_trans (ih (by omega) (by omega)) ?_
      rw[h.next j (by omega)]
      exact(h.step j (by omega)).val (h.pos j (by omega))
theorem Run.const (h:Run m N ord al T r s k) (hc: ∀j,Bas m (T k) j↔Bas m (T 0) j): ∀i,i≤k→(T i).v=(T 0).v:=by
 have e:(T k).v=(T 0).v:=by
  have h1:=bsol_sol (h.inv k (Nat.le_refl _));have h2:=(h.eqv k (Nat.le_refl _) _ _).1 h1
  refine val_of (h.inv 0 (Nat.zero_le _)) h2 fun j _ hn=>bsol_oth fun hb=>hn ((hc j).1 hb)
 intro i hi
 have a1:=h.mono 0 i (Nat.zero_le _) hi;have a2:=h.mono i k hi (Nat.le_refl _);rw[e] at a2
 exact Rat.le_antisymm a2 a1
theorem Run.zero (h:Run m N ord al T r s k) (hc: ∀j,Bas m (T k) j↔Bas m (T 0) j) {i:Nat} (hi:i<k):(T i).b (r i)=0:=by
 have st:=h.step i hi
 have e1:=h.const hc (i+1) (by omega)
 rw[h.next i hi] at e1
 simp only[pivot] at e1
 rw[h.const hc i (by omega)] at e1
 have e2:(T i).c (s i)*((T i).b (r i)/(T i).a (r i) (s i))=0:=by grind
 rcases Rat.mul_eq_zero.1 e2 with e3|e3
 ·exact absurd e3 (Rat.ne_of_gt st.cs)
 ·have:=Rat.div_mul_cancel (a:=(T i).b (r i)) (Rat.ne_of_gt st.ars)
  rw[e3,Rat.zero_mul] at this
  exact this.symm
theorem Run.bstep (h:Run m N ord al T r s k) (hc: ∀j,Bas m (T k) j↔Bas m (T 0) j) {i:Nat} (hi:i<k) (j:Nat):bsol m (T (i+1)) j=bsol m (T i) j:=by
 have st:=h.step i hi;have hz:=h.zero hc hi
 have I0:=h.inv i (by omega)
 have I1:=h.inv (i+1) (by omega)
 have en:=h.next i hi
 have hb: ∀l,(T (i+1)).b l=(T i).b l:=by
  intro l
  rw[en];simp only[pivot]
  rw[hz,zero_div]
  split
  ·next e=>rw[e,hz]
  ·rw[Rat.mul_zero];grind
 unfold bsol
 refine S_congr fun l hl=>?_
 rw[hb l,en]
 by_cases e:l=r i
 ·have h0:(T i).b l=0:=by rw[e];exact hz
  rw[h0];simp
 ·have h1:(pivot (T i) (r i) (s i)).bas l=(T i).bas l:=if_neg e
  rw[h1]
theorem Run.bconst (h:Run m N ord al T r s k) (hc: ∀j,Bas m (T k) j↔Bas m (T 0) j): ∀i,i≤k→∀j,bsol m (T i) j=bsol m (T 0) j
 |0,_,_=>rfl
 |i+1,hi,j=>by rw[h.bstep hc (by omega) j,Run.bconst h hc i (by omega) j]
theorem Run.enter_new (h:Run m N ord al T r s k) {i j:Nat} (hi:i<k) (hn: ¬Bas m (T i) j) (hb:Bas m (T (i+1)) j):j=s i:=by
 obtain⟨l,hl,e⟩:=hb;rw[h.next i hi] at e
 simp only[pivot] at e
 split at e
 ·exact e.symm
 ·exact absurd ⟨l,hl,e⟩ hn
theorem Run.leave_old (h:Run m N ord al T r s k) {i j:Nat} (hi:i<k) (hb:Bas m (T i) j) (hn: ¬Bas m (T (i+1)) j):j=(T i).bas (r i):=by
 obtain⟨l,hl,e⟩:=hb
 by_cases e2:l=r i
 ·rw[←e,e2]
 ·refine absurd ⟨l,hl,?_⟩ hn
  rw[h.next i hi]
  simp only[pivot,if_neg e2];exact e
theorem Run.between (_:Run m N ord al T r s k) {P:Nat→Prop}: ∀ {i j:Nat},i≤j→P i→¬P j→∃l,i≤l∧l<j∧P l∧¬P (l+1)
  | i, j, hij,hi,hj=>by
    induction j with
    | zero => have:i=0:=by omega
              subst this;exact absurd hi hj
    | succ j ih=>
      by_cases hp:P j
      · by_cases e:i=j+1
        ·rw[e] at hi;exact absurd hi hj
        ·exact⟨j,by omega,by omega,hp,hj⟩
      · by_cases e:i=j+1
        ·rw[e] at hi;exact absurd hi hj
        · obtain⟨l,a,b,c,d⟩:=ih (by omega) hp
          exact⟨l,a,by omega,c,d⟩
theorem Run.fickle (h:Run m N ord al T r s k) (hc: ∀j,Bas m (T k) j↔Bas m (T 0) j) {j i0 i1:Nat} (h0:i0≤k) (h1:i1≤k) (hb:Bas m (T i0) j) (hn: ¬Bas m (T i1) j):
  (∃l,l<k∧Bas m (T l) j∧¬Bas m (T (l+1)) j)∧(∃l,l<k∧¬Bas m (T l) j∧Bas m (T (l+1)) j):=by
 by_cases hz:Bas m (T 0) j
 ·have hk:Bas m (T k) j:=(hc j).2 hz
  constructor
  ·obtain⟨l,_,b,c,d⟩:=h.between (P:=fun i=>Bas m (T i) j) (Nat.zero_le i1) hz hn
   exact⟨l,by omega,c,d⟩
  ·obtain⟨l,_,b,c,d⟩:=h.between (P:=fun i=> ¬Bas m (T i) j) h1 hn (fun hx=>hx hk)
   exact⟨l,b,c,Classical.not_not.1 d⟩
 ·have hk: ¬Bas m (T k) j:=fun hx=>hz ((hc j).1 hx)
  constructor
  ·obtain⟨l,_,b,c,d⟩:=h.between (P:=fun i=>Bas m (T i) j) h0 hb hk
   exact⟨l,b,c,d⟩
  ·obtain⟨l,_,b,c,d⟩:=h.between (P:=fun i=> ¬Bas m (T i) j) (Nat.zero_le i0) hz (fun hx=>hx hb)
   exact⟨l,by omega,c,Classical.not_not.1 d⟩
def S':Nat→(Nat→Nat)→Nat
  |0,_=>0
  |n+1,f=>S' n f+f n+1
theorem S'_lt {n:Nat} {f:Nat→Nat} {j:Nat} (h:j<n):f j<S' n f:=by
 induction n with
 |zero=>omega
 | succ n ih=>
  rw[S']
  rcases Nat.lt_or_ge j n with h1|h1
  ·have:=ih h1;omega
  ·have:j=n:=by omega
   subst this;omega
theorem exists_max (ord:Nat→Nat) (P:Nat→Prop) (B:Nat) (hB: ∀j,P j→ord j<B) (hex: ∃j,P j): ∃t,P t∧∀j,P j→ord j≤ord t:=by
 apply Classical.byContradiction
 intro hc
 have key: ∀n,∃j,P j∧n≤ord j:=by
  intro n
  induction n with
  |zero=>obtain⟨j,hj⟩:=hex;exact⟨j,hj,Nat.zero_le _⟩
  |succ n ih=>
   obtain⟨j,hj,hn⟩:=ih
   apply Classical.byContradiction
   intro hc2
   refine hc ⟨j,hj,fun i hi=>?_⟩
   apply Classical.byContradiction
   intro hlt
   exact hc2 ⟨i,hi,by omega⟩
 obtain⟨j,hj,hn⟩:=key B;have:=hB j hj
 omega
theorem Run.never (h:Run m N ord al T r s k) (hk:0<k) (hord: ∀i j,ord i=ord j→i=j): ¬∀j,Bas m (T k) j↔Bas m (T 0) j:=by
 intro hc
 -- the fickle variables
 let P:Nat→Prop:=fun j=>(∃i,i≤k∧Bas m (T i) j)∧∃i,i≤k∧¬Bas m (T i) j
 have P0:P (s 0):=by
  refine⟨⟨1,by omega,?_⟩,⟨0,by omega,(h.step 0 hk).nb (h.inv 0 (by omega))⟩⟩
  refine⟨r 0,(h.step 0 hk).hr,?_⟩
  rw[h.next 0 hk];simp[pivot]
 have enters: ∀j,P j→∃l,l<k∧j=s l:=by
  rintro j ⟨⟨i0,h0,hb⟩,⟨i1,h1,hn⟩⟩;obtain⟨_,l,hl,a,b⟩:=h.fickle hc h0 h1 hb hn
  exact⟨l,hl,h.enter_new hl a b⟩
 have allowed: ∀j,P j→al j∧j<N:=by
  intro j hj
  obtain⟨l,hl,e⟩:=enters j hj;rw[e];exact⟨(h.step l hl).als,(h.step l hl).hs⟩
 obtain⟨t,ht,hmax⟩:=exists_max ord P (S' N ord) (fun j hj=>S'_lt (allowed j hj).2) ⟨_,P0⟩;obtain⟨⟨i0,h0,hb⟩,⟨i1,h1,hn⟩⟩:=ht;obtain⟨⟨l,hl,la,lb⟩,⟨u,hu,ua,ub⟩⟩:=h.fickle hc h0 h1 hb hn;have et:=h.leave_old hl la lb;have eu:=h.enter_new hu ua ub;have sl:=h.step l hl;have su:=h.step u hu
 have Il:=h.inv l (by omega)
 have Iu:=h.inv u (by omega)
 have nbs:=sl.nb Il
 -- s enters where t leaves
 have hsP:P (s l):=⟨⟨l+1,by omega,by
  refine⟨r l,sl.hr,?_⟩
  rw[h.next l hl];simp[pivot]⟩,⟨l,by omega,nbs⟩⟩
 have hst:s l≠t:=fun e=>nbs (by rw[e];exact la)
 have lest: ∀j,P j→j≠t→(T u).c j≤0:=by
  intro j hj hne
  have h1:=hmax j hj;have h2:ord j≠ord t:=fun e=>hne (hord _ _ e)
  exact su.least j (allowed j hj).2 (allowed j hj).1 (by rw[←eu];omega)
 have cs0:=lest _ hsP hst
 -- the value along the ray
 have ev: ∀y:Rat,(T l).v+(T l).c (s l)*y=(T u).v+((T u).c (s l)*y+S m (fun i=>(T u).c ((T l).bas i)*((T l).b i-(T l).a i (s l)*y))):=by
  intro y
  have h1:=ray_sol Il sl.hs y
  have h2:=(h.eqv u (by omega) _ _).2 ((h.eqv l (by omega) _ _).1 h1)
  rw[h2.2,sum_ray Il sl.hs]
 have e0:=ev 0;have e1:=ev 1
 have es:S m (fun i=>(T u).c ((T l).bas i)*((T l).b i-(T l).a i (s l)*1))=S m (fun i=>(T u).c ((T l).bas i)*((T l).b i-(T l).a i (s l)*0))-S m (fun i=>(T u).c ((T l).bas i)*(T l).a i (s l)):=by
  rw[←S_sub]
  exact S_congr fun i _=>by grind
 rw[es] at e1
 have hneg:S m (fun i=>(T u).c ((T l).bas i)*(T l).a i (s l))<0:=by
  have c1:=sl.cs
  have:(T l).c (s l)=(T u).c (s l)-S m (fun i=>(T u).c ((T l).bas i)*(T l).a i (s l)):=by grind
  grind
 obtain⟨i,hi,hlt⟩:=exists_neg hneg
 -- the row that should have left
 have hcn:(T u).c ((T l).bas i)≠0:=fun e=>by rw[e,Rat.zero_mul] at hlt;exact Rat.lt_irrefl hlt
 have hnu: ¬Bas m (T u) ((T l).bas i):=fun⟨q,hq,e⟩=>hcn (by rw[←e];exact Iu.cost q hq)
 have hiP:P ((T l).bas i):=⟨⟨l,by omega,⟨i,hi,rfl⟩⟩,⟨u,by omega,hnu⟩⟩
 have hit:(T l).bas i≠t:=by
  intro e
  have hir:i=r l:=Il.inj hi sl.hr (by rw[e,et])
  have h1:=Rat.mul_pos su.cs sl.ars;rw[←eu,et,←hir] at h1
  exact absurd (Rat.le_of_lt hlt) (Rat.not_le.2 h1)
 have hc0:=lest _ hiP hit
 have hap:0<(T l).a i (s l):=by
  apply Classical.byContradiction
  intro hn
  have h1:(T l).a i (s l)≤0:=Rat.not_lt.1 hn
  have h2:0≤(T u).c ((T l).bas i)*(T l).a i (s l):=by
   have:=Rat.mul_nonneg (Rat.neg_le_neg hc0) (Rat.neg_le_neg h1)
   grind
  exact Rat.not_lt.2 h2 hlt
 have hbi:(T l).b i=0:=by
  rw[←bsol_bas Il hi,h.bconst hc l (by omega),←h.bconst hc u (by omega)]
  exact bsol_oth hnu
 have htie:=sl.tie i hi hap (by rw[h.zero hc hl,hbi,Rat.zero_mul,Rat.zero_mul])
 have h1:=hmax _ hiP;rw[←et] at htie
 exact hit (hord _ _ (by omega))
end
end Lp
namespace Lp
section
variable {m N:Nat} {ord:Nat→Nat} {al:Nat→Prop}
open Classical in
/-- the code of a set of variables below N -/
noncomputable def code (P:Nat→Prop):Nat→Nat
  |0=>0
  |n+1=>2*code P n+if P n then 1 else 0
theorem code_lt (P:Nat→Prop): ∀n,code P n<2^n
 |0=>by simp[code]
 |n+1=>by
  have:=code_lt P n;unfold code;rw[Nat.pow_succ]
  split<;>omega
theorem code_inj (P Q:Nat→Prop): ∀n,code P n=code Q n→∀j,j<n→(P j↔Q j)
 |0,_,j,hj=>by omega
 | n+1,h,j,hj=>by
  unfold code at h
  have h1:code P n=code Q n:=by split at h<;>split at h<;>omega
  rcases Nat.lt_or_ge j n with hlt|hge
  ·exact code_inj P Q n h1 j hlt
  ·have:j=n:=by omega
   subst this;rw[h1] at h
   by_cases hp:P j<;>by_cases hq:Q j
   ·exact⟨fun _=>hq,fun _=>hp⟩
   ·rw[if_pos hp,if_neg hq] at h;omega
   ·rw[if_neg hp,if_pos hq] at h;omega
   ·exact⟨fun x=>absurd x hp,fun x=>absurd x hq⟩
theorem pigeon: ∀(M:Nat) (f:Nat→Nat),(∀i,i≤M→f i<M)→∃i j,i<j∧j≤M∧f i=f j
 |0,f,h=>by have:=h 0 (Nat.le_refl _);omega
 | M +1,f,h=>by
  apply Classical.byContradiction
  intro hc
  have inj: ∀i j,i<j→j≤M+1→f i≠f j:=fun i j a b e=>hc ⟨i,j,a,b,e⟩
  -- the value M is taken at most once: leave that place out
  by_cases hex: ∃i,i≤M+1∧f i=M
  ·obtain⟨p,hp,hpe⟩:=hex
   obtain⟨i,j,hij,hj,e⟩:=pigeon M (fun i=>if i<p then f i else f (i+1)) (fun i hi=>by
    show(if i<p then f i else f (i+1))<M
    split
    ·have h1:=h i (by omega)
     have h2:=inj i p (by omega) hp
     omega
    ·have h1:=h (i+1) (by omega)
     have h2:=inj p (i+1) (by omega) (by omega)
     omega)
   have e:(if i<p then f i else f (i+1))=(if j<p then f j else f (j+1)):=e
   split at e<;>split at e
   ·exact inj i j hij (by omega) e
   ·exact inj i (j+1) (by omega) (by omega) e
   ·omega
   ·exact inj (i+1) (j+1) (by omega) (by omega) e
  ·obtain⟨i,j,hij,hj,e⟩:=pigeon M f (fun i hi=>by
    have h1:=h i (by omega)
    have h2:f i≠M:=fun e=>hex ⟨i,by omega,e⟩
    omega)
   exact inj i j hij (by omega) e
variable {T:Nat→Tab} {r s:Nat→Nat} {k:Nat}
theorem Run.shift (h:Run m N ord al T r s k) {i j:Nat} (hij:i≤j) (hj:j≤k):Run m N ord al (fun n=>T (i+n)) (fun n=>r (i+n)) (fun n=>s (i+n)) (j-i):=
 ⟨fun n hn=>h.inv (i+n) (by omega),fun n hn=>h.pos (i+n) (by omega),fun n hn=>h.step (i+n) (by omega),fun n hn=>h.next (i+n) (by omega)⟩
theorem Run.short (h:Run m N ord al T r s k) (hord: ∀i j,ord i=ord j→i=j):k<2^N:=by
 apply Classical.byContradiction
 intro hk
 obtain⟨i,j,hij,hj,e⟩:=pigeon (2^N) (fun i=>code (Bas m (T i)) N) (fun i _=>code_lt _ _)
 have hr:=h.shift (i:=i) (j:=j) (by omega) (by omega)
 refine hr.never (by omega) hord fun q=>?_
 simp only[show i+(j-i)=j by omega,Nat.add_zero]
 have hb:=fun(u q:Nat) (hu:u≤k) (hq:Bas m (T u) q)=>(h.inv u hu).bas _ hq.choose_spec.1
 rcases Nat.lt_or_ge q N with hlt|hge
 ·exact(code_inj _ _ N e q hlt).symm
 ·constructor
  ·rintro ⟨l,hl,e⟩;have:=(h.inv j (by omega)).bas l hl;omega
  ·rintro ⟨l,hl,e⟩;have:=(h.inv i (by omega)).bas l hl;omega
end
end Lp
namespace Lp
def Feas(m n:Nat)(A:Nat→Nat→Rat)(B x:Nat→Rat):Prop:=(∀j,j<n→0≤x j)∧∀i,i<m→S n (fun j=>A i j*x j)≤B i
def Dual(m n:Nat)(A:Nat→Nat→Rat)(C y:Nat→Rat):Prop:=(∀i,i<m→0≤y i)∧∀j,j<n→C j≤S m (fun i=>A i j*y i)
section
variable {m n:Nat} {A:Nat→Nat→Rat} {B C x y:Nat→Rat}
theorem weak (hx:Feas m n A B x) (hy:Dual m n A C y):S n (fun j=>C j*x j)≤S m (fun i=>B i*y i):=by
 have h1:S n (fun j=>C j*x j)≤S n (fun j=>S m (fun i=>A i j*y i)*x j):=S_le fun j hj=>Rat.mul_le_mul_of_nonneg_right (hy.2 j hj) (hx.1 j hj)
 have h2:S n (fun j=>S m (fun i=>A i j*y i)*x j)=S m (fun i=>S n (fun j=>A i j*x j)*y i):=by
  have e1:S n (fun j=>S m (fun i=>A i j*y i)*x j)=S n (fun j=>S m (fun i=>A i j*y i*x j)):=S_congr fun j _=>(S_mulr _ _ _).symm;have e2:S m (fun i=>S n (fun j=>A i j*x j)*y i)=S m (fun i=>S n (fun j=>A i j*x j*y i)):=S_congr fun i _=>(S_mulr _ _ _).symm;rw[e1,e2,S_swap]
  exact S_congr fun i _=>S_congr fun j _=>by grind
 have h3:S m (fun i=>S n (fun j=>A i j*x j)*y i)≤S m (fun i=>B i*y i):=S_le fun i hi=>Rat.mul_le_mul_of_nonneg_right (hx.2 i hi) (hy.1 i hi)
 exact Rat.le_trans h1 (h2▸h3)
structure Cert (m n:Nat) (A:Nat→Nat→Rat) (B C x y:Nat→Rat) (v:Rat):Prop where
  px:Feas m n A B x
  py:Dual m n A C y
  vx:S n (fun j=>C j*x j)=v
  vy:S m (fun i=>B i*y i)=v
structure Unb (m n:Nat) (A:Nat→Nat→Rat) (B C x d:Nat→Rat):Prop where
  px:Feas m n A B x
  dpos: ∀j,j<n→0≤d j
  drow: ∀i,i<m→S n (fun j=>A i j*d j)≤0
  dval:0<S n (fun j=>C j*d j)
theorem Cert.unique {x' y':Nat→Rat} {v v':Rat} (h:Cert m n A B C x y v) (h':Cert m n A B C x' y' v'):v=v':=by
 have h1:=weak h.px h'.py;have h2:=weak h'.px h.py;rw[h.vx,h'.vy] at h1;rw[h'.vx,h.vy] at h2
 exact Rat.le_antisymm h1 h2
theorem Unb.no_dual {d:Nat→Rat} (h:Unb m n A B C x d): ¬Dual m n A C y:=by
 intro hy
 have h0:Feas m n A (fun _=>0) d:=⟨h.dpos,h.drow⟩;have h1:=weak h0 hy;rw[S_eq0 (f:=fun i=>0*y i) fun i _=>Rat.zero_mul _] at h1
 exact Rat.not_lt.2 h1 h.dval
theorem Unb.no_cert{d x' y':Nat→Rat}{v:Rat}(h:Unb m n A B C x d): ¬Cert m n A B C x' y' v:=fun hc=>h.no_dual hc.py
inductive Out (m n:Nat) (A:Nat→Nat→Rat) (B C:Nat→Rat):Nat→Prop where
  |ok {x y v} (h:Cert m n A B C x y v):Out m n A B C 0
  |empty (h: ∀x,¬Feas m n A B x):Out m n A B C 1
  |unb {x d} (h:Unb m n A B C x d):Out m n A B C 2
theorem Out.unique {a b:Nat} (h:Out m n A B C a) (h':Out m n A B C b):a=b:=by
 cases h with
 |ok h1=>cases h' with
  |ok _=>rfl
  |empty h2=>exact absurd h1.px (h2 _)
  |unb h2=>exact absurd h1 h2.no_cert
 |empty h1=>cases h' with
  |ok h2=>exact absurd h2.px (h1 _)
  |empty _=>rfl
  |unb h2=>exact absurd h2.px (h1 _)
 |unb h1=>cases h' with
  |ok h2=>exact absurd h2 h1.no_cert
  |empty h2=>exact absurd h1.px (h2 _)
  |unb _=>rfl
theorem dual_feas:Feas n m (fun j i=> -A i j) (fun j=> -C j) y↔Dual m n A C y:=by
 have e: ∀j,S m (fun i=> -A i j*y i)= -S m (fun i=>A i j*y i):=fun j=>by
  rw[←S_neg];exact S_congr fun i _=>Rat.neg_mul _ _
 constructor
 ·rintro ⟨h1,h2⟩
  refine⟨h1,fun j hj=>?_⟩
  have:=h2 j hj;rw[e] at this
  exact Rat.neg_le_neg_iff.1 this
 ·rintro ⟨h1,h2⟩
  refine⟨h1,fun j hj=>?_⟩
  show S m (fun i=> -A i j*y i)≤ -C j
  rw[e]
  exact Rat.neg_le_neg_iff.2 (h2 j hj)
theorem dual_dual:Dual n m (fun j i=> -A i j) (fun i=> -B i) x↔Feas m n A B x:=by
 have e: ∀i,S n (fun j=> -A i j*x j)= -S n (fun j=>A i j*x j):=fun i=>by
  rw[←S_neg];exact S_congr fun j _=>Rat.neg_mul _ _
 constructor
 ·rintro ⟨h1,h2⟩
  refine⟨h1,fun i hi=>?_⟩
  have:=h2 i hi;rw[e] at this
  exact Rat.neg_le_neg_iff.1 this
 ·rintro ⟨h1,h2⟩
  refine⟨h1,fun i hi=>?_⟩
  show-B i≤S n (fun j=> -A i j*x j)
  rw[e]
  exact Rat.neg_le_neg_iff.2 (h2 i hi)
theorem Cert.turn {v:Rat} (h:Cert m n A B C x y v):Cert n m (fun j i=> -A i j) (fun j=> -C j) (fun i=> -B i) y x (-v):=by
 refine⟨dual_feas.2 h.py,dual_dual.2 h.px,?_,?_⟩
 ·rw[←h.vy,←S_neg];exact S_congr fun i _=>Rat.neg_mul _ _
 ·rw[←h.vx,←S_neg];exact S_congr fun j _=>Rat.neg_mul _ _
theorem Cert.back {v:Rat} (h:Cert n m (fun j i=> -A i j) (fun j=> -C j) (fun i=> -B i) y x v):Cert m n A B C x y (-v):=by
 refine⟨dual_dual.1 h.py,dual_feas.1 h.px,?_,?_⟩
 ·rw[←h.vy,←S_neg];exact S_congr fun j _=>by rw[Rat.neg_mul,Rat.neg_neg]
 ·rw[←h.vx,←S_neg];exact S_congr fun i _=>by rw[Rat.neg_mul,Rat.neg_neg]
end
end Lp
namespace Lp
structure Inv0 (m N:Nat) (T:Tab):Prop where
  bas: ∀i,i<m→T.bas i<N
  unit: ∀i k,i<m→k<m→T.a i (T.bas k)=if i=k then 1 else 0
def wc(m:Nat)(T:Tab)(g:Nat→Rat):Tab:=⟨T.a,T.b,T.bas,fun j=>g j-S m (fun i=>g (T.bas i)*T.a i j),S m (fun i=>g (T.bas i)*T.b i)⟩
section
variable {m n N:Nat} {T U:Tab} {g:Nat→Rat}
theorem wc_inv (h:Inv0 m N T) (g:Nat→Rat):Inv m N (wc m T g):=
 ⟨h.bas,h.unit,fun k hk=>by
  show g (T.bas k)-S m (fun i=>g (T.bas i)*T.a i (T.bas k))=0
  rw[S_single (k:=k) hk]
  ·rw[h.unit k k hk hk,if_pos rfl];grind
  ·intro j hj hne
   rw[h.unit j k hj hk,if_neg hne,Rat.mul_zero]⟩
theorem Inv0.inj(h:Inv0 m N T){i k:Nat}(hi:i<m)(hk:k<m)(e:T.bas i=T.bas k):i=k:=(wc_inv h (fun _=>0)).inj hi hk e
theorem Inv.inv0(h:Inv m N T):Inv0 m N T:=⟨h.bas,h.unit⟩
theorem wc_pivot {r s:Nat} (hr:r<m) (hp:T.a r s≠0) (g:Nat→Rat):wc m (pivot T r s) g=pivot (wc m T g) r s:=by
 have key: ∀(f:Nat→Rat) (q:Rat),f r=T.a r s*q→S m (fun i=>g (if i=r then s else T.bas i)*(if i=r then q else f i-T.a i s*q))=S m (fun i=>g (T.bas i)*f i)+(g s-S m (fun i=>g (T.bas i)*T.a i s))*q:=by
  intro f q hq
  rw[S_split (k:=r) hr,if_pos rfl,if_pos rfl]
  have e1:S m (fun i=>if i=r then 0 else g (if i=r then s else T.bas i)*(if i=r then q else f i-T.a i s*q))=S m (fun i=>g (T.bas i)*f i)-S m (fun i=>g (T.bas i)*T.a i s)*q:=by
   rw[←S_mulr,←S_sub]
   refine S_congr fun i _=>?_
   by_cases e:i=r
   ·rw[if_pos e,e,hq];grind
   ·rw[if_neg e,if_neg e,if_neg e];grind
  rw[e1];grind
 have hq: ∀x:Rat,x=T.a r s*(x/T.a r s):=fun x=>(div_mul_cancel' hp).symm;unfold wc;unfold pivot
 simp only[Tab.mk.injEq,true_and]
 refine⟨?_,?_⟩
 ·funext j
  have:=key (fun i=>T.a i j) (T.a r j/T.a r s) (hq _);have e2:S m (fun i=>g (if i=r then s else T.bas i)*(if i=r then T.a r j/T.a r s else T.a i j-T.a i s*(T.a r j/T.a r s)))=S m (fun i=>g (T.bas i)*T.a i j)+(g s-S m (fun i=>g (T.bas i)*T.a i s))*(T.a r j/T.a r s):=this;rw[e2];grind
 ·exact key T.b (T.b r/T.a r s) (hq _)
theorem pivot_inv0 (h:Inv0 m N T) {r s:Nat} (hr:r<m) (hs:s<N) (hp:T.a r s≠0) (hn: ¬Bas m T s):Inv0 m N (pivot T r s):=by
 have h1:=pivot_inv (wc_inv h (fun _=>0)) hr hs hp hn;rw[←wc_pivot hr hp] at h1
 exact⟨h1.bas,h1.unit⟩
def Rows(m N:Nat)(T:Tab)(x:Nat→Rat):Prop:= ∀i,i<m→S N (fun j=>T.a i j*x j)=T.b i
theorem wc_sum (g:Nat→Rat) {x:Nat→Rat} (h:Rows m N T x):S m (fun i=>g (T.bas i)*T.b i)+S N (fun j=>(g j-S m (fun i=>g (T.bas i)*T.a i j))*x j)=S N (fun j=>g j*x j):=by
 have e1:S N (fun j=>(g j-S m (fun i=>g (T.bas i)*T.a i j))*x j)=S N (fun j=>g j*x j)-S N (fun j=>S m (fun i=>g (T.bas i)*(T.a i j*x j))):=by
  rw[←S_sub]
  refine S_congr fun j _=>?_
  have:S m (fun i=>g (T.bas i)*(T.a i j*x j))=S m (fun i=>g (T.bas i)*T.a i j)*x j:=by
   rw[←S_mulr];exact S_congr fun i _=>by grind
  rw[this];grind
 have e2:S N (fun j=>S m (fun i=>g (T.bas i)*(T.a i j*x j)))=S m (fun i=>g (T.bas i)*T.b i):=by
  rw[S_swap]
  refine S_congr fun i hi=>?_
  rw[S_mul,h i hi]
 rw[e1,e2];grind
theorem wc_sol (g:Nat→Rat) (x:Nat→Rat) (z:Rat):Sol m N (wc m T g) x z↔Rows m N T x∧z=S N (fun j=>g j*x j):=by
 constructor
 ·rintro ⟨h1,h2⟩
  exact⟨h1,by rw[h2];exact wc_sum g h1⟩
 ·rintro ⟨h1,h2⟩
  exact⟨h1,by rw[h2];exact(wc_sum g h1).symm⟩
theorem pivot_rows {r s:Nat} (hr:r<m) (hp:T.a r s≠0) (x:Nat→Rat):Rows m N (pivot T r s) x↔Rows m N T x:=by
 have h:=pivot_sol (N:=N) (T:=wc m T (fun _=>0)) hr hp x (S N (fun j=>(0:Rat)*x j));rw[←wc_pivot hr hp,wc_sol,wc_sol] at h
 exact⟨fun h1=>(h.1 ⟨h1,rfl⟩).1,fun h1=>(h.2 ⟨h1,rfl⟩).1⟩
def mat(m n:Nat)(A:Nat→Nat→Rat)(i j:Nat):Rat:=if j<n then A i j else if j=n+m then-1 else if j=n+i then 1 else 0
def tab0(m n:Nat)(A:Nat→Nat→Rat)(B:Nat→Rat):Tab:=⟨mat m n A,B,fun i=>n+i,fun _=>0,0⟩
variable {A:Nat→Nat→Rat} {B C:Nat→Rat}
theorem mat_slack (i k:Nat) (hk:k<m):mat m n A i (n+k)=if i=k then 1 else 0:=by
 unfold mat
 rw[if_neg (by omega),if_neg (by omega)]
 by_cases e:i=k
 ·rw[if_pos (by omega),if_pos e]
 ·rw[if_neg (by omega),if_neg e]
theorem tab0_inv:Inv0 m (n+m+1) (tab0 m n A B):=⟨fun i hi=>by show n+i<_;omega,fun i k _ hk=>mat_slack i k hk⟩
structure Src (m n:Nat) (A:Nat→Nat→Rat) (B:Nat→Rat) (T:Tab):Prop where
  a: ∀i j,i<m→S m (fun k=>T.a i (n+k)*mat m n A k j)=T.a i j
  b: ∀i,i<m→S m (fun k=>T.a i (n+k)*B k)=T.b i
theorem tab0_src:Src m n A B (tab0 m n A B):=by
 constructor
 ·intro i j hi
  show S m (fun k=>mat m n A i (n+k)*mat m n A k j)=mat m n A i j
  rw[S_single (k:=i) hi]
  ·rw[mat_slack i i hi,if_pos rfl,Rat.one_mul]
  ·intro k hk hne
   rw[mat_slack i k hk,if_neg (Ne.symm hne),Rat.zero_mul]
 ·intro i hi
  show S m (fun k=>mat m n A i (n+k)*B k)=B i
  rw[S_single (k:=i) hi]
  ·rw[mat_slack i i hi,if_pos rfl,Rat.one_mul]
  ·intro k hk hne
   rw[mat_slack i k hk,if_neg (Ne.symm hne),Rat.zero_mul]
theorem Src.pivot (h:Src m n A B T) {r s:Nat} (hr:r<m):Src m n A B (pivot T r s):=by
 have key: ∀(i:Nat) (f:Nat→Rat) (u v:Rat),i<m→S m (fun k=>T.a r (n+k)*f k)=u→S m (fun k=>T.a i (n+k)*f k)=v→S m (fun k=>(if i=r then T.a r (n+k)/T.a r s else T.a i (n+k)-T.a i s*(T.a r (n+k)/T.a r s))*f k)=if i=r then u/T.a r s else v-T.a i s*(u/T.a r s):=by
  intro i f u v _ hu hv
  have e:S m (fun k=>T.a r (n+k)/T.a r s*f k)=u/T.a r s:=by
   rw[←hu,←S_div];exact S_congr fun k _=>by rw[Rat.div_def,Rat.div_def];grind
  by_cases c:i=r
  ·rw[if_pos c,←e];exact S_congr fun k _=>by rw[if_pos c]
  ·rw[if_neg c,←e,←hv,←S_mul,←S_sub]
   exact S_congr fun k _=>by rw[if_neg c];grind
 constructor
 ·intro i j hi
  exact key i (fun k=>mat m n A k j) _ _ hi (h.a r j hr) (h.a i j hi)
 ·intro i hi
  exact key i B _ _ hi (h.b r hr) (h.b i hi)
def ext(m n:Nat)(A:Nat→Nat→Rat)(B x:Nat→Rat)(j:Nat):Rat:=if j<n then x j else if j<n+m then B (j-n)-S n (fun q=>A (j-n) q*x q) else 0
theorem mat_sum (x:Nat→Rat) {i:Nat} (hi:i<m):S (n+m+1) (fun j=>mat m n A i j*x j)=S n (fun j=>A i j*x j)+x (n+i)-x (n+m):=by
 rw[S_succ,S_append]
 have e1:S n (fun j=>mat m n A i j*x j)=S n (fun j=>A i j*x j):=S_congr fun j hj=>by unfold mat;rw[if_pos hj]
 have e2:S m (fun k=>mat m n A i (n+k)*x (n+k))=x (n+i):=by
  rw[S_single (k:=i) hi]
  ·rw[mat_slack i i hi,if_pos rfl,Rat.one_mul]
  ·intro k hk hne
   rw[mat_slack i k hk,if_neg (Ne.symm hne),Rat.zero_mul]
 have e3:mat m n A i (n+m)= -1:=by unfold mat;rw[if_neg (by omega),if_pos rfl]
 rw[e1,e2,e3];grind
theorem ext_rows (x:Nat→Rat):Rows m (n+m+1) (tab0 m n A B) (ext m n A B x):=by
 intro i hi
 show S (n+m+1) (fun j=>mat m n A i j*ext m n A B x j)=B i
 rw[mat_sum _ hi]
 have e1:S n (fun j=>A i j*ext m n A B x j)=S n (fun j=>A i j*x j):=S_congr fun j hj=>by unfold ext;rw[if_pos hj]
 have e2:ext m n A B x (n+i)=B i-S n (fun q=>A i q*x q):=by
  unfold ext;rw[if_neg (by omega),if_pos (by omega),show n+i-n=i by omega]
 have e3:ext m n A B x (n+m)=0:=by unfold ext;rw[if_neg (by omega),if_neg (by omega)]
 rw[e1,e2,e3];grind
theorem ext_nonneg {x:Nat→Rat} (h:Feas m n A B x) (j:Nat):0≤ext m n A B x j:=by
 unfold ext
 split
 ·next hj=>exact h.1 j hj
 ·split
  ·next h1 h2=>exact(Rat.le_iff_sub_nonneg _ _).1 (h.2 (j-n) (by omega))
  ·exact Rat.le_refl
theorem feas_of {x:Nat→Rat} (h:Rows m (n+m+1) (tab0 m n A B) x) (h0:x (n+m)=0) (hp: ∀j,j<n+m→0≤x j):Feas m n A B x:=by
 refine⟨fun j hj=>hp j (by omega),fun i hi=>?_⟩
 have h1:=h i hi;have h2:S (n+m+1) (fun j=>mat m n A i j*x j)=B i:=h1;rw[mat_sum _ hi,h0] at h2
 have h3:=hp (n+i) (by omega)
 grind
def cst(n:Nat)(C:Nat→Rat)(j:Nat):Rat:=if j<n then C j else 0
theorem cst_sum (x:Nat→Rat):S (n+m+1) (fun j=>cst n C j*x j)=S n (fun j=>C j*x j):=by
 rw[show n+m+1=n+(m+1) by omega,S_append,S_eq0 (n:=m+1),Rat.add_zero]
 ·exact S_congr fun j hj=>by unfold cst;rw[if_pos hj]
 ·intro k _;unfold cst;rw[if_neg (by omega),Rat.zero_mul]
def REq(m N:Nat)(T U:Tab):Prop:= ∀x,Rows m N T x↔Rows m N U x
theorem bsol_rows(h:Inv0 m N T):Rows m N T (bsol m T):=(bsol_sol (wc_inv h (fun _=>0))).1
theorem bsol_nonneg(hb: ∀i,i<m→0≤T.b i)(j:Nat):0≤bsol m T j:=S_nonneg fun i hi=>by split;exact hb i hi;exact Rat.le_refl
theorem cert_of (hI:Inv0 m (n+m+1) T) (hR:REq m (n+m+1) T (tab0 m n A B)) (hS:Src m n A B T) (hb: ∀i,i<m→0≤T.b i) (hh: ¬Bas m T (n+m)) (hc: ∀j,j<n+m→(wc m T (cst n C)).c j≤0):
  Cert m n A B C (bsol m T) (fun k=>S m (fun i=>cst n C (T.bas i)*T.a i (n+k))) (wc m T (cst n C)).v:=by
 have c0: ∀k,k<m→cst n C (n+k)=0:=fun k _=>by unfold cst;rw[if_neg (by omega)]
 refine⟨feas_of ((hR _).1 (bsol_rows hI)) (bsol_oth hh) fun j _=>bsol_nonneg hb j,⟨fun k hk=>?_,fun j hj=>?_⟩,?_,?_⟩
 ·have h1:cst n C (n+k)-S m (fun i=>cst n C (T.bas i)*T.a i (n+k))≤0:=hc (n+k) (by omega)
  rw[c0 k hk] at h1
  grind
 ·have h1:cst n C j-S m (fun i=>cst n C (T.bas i)*T.a i j)≤0:=hc j (by omega)
  have e:S m (fun i=>A i j*S m (fun q=>cst n C (T.bas q)*T.a q (n+i)))=S m (fun q=>cst n C (T.bas q)*T.a q j):=by
   have e1:S m (fun i=>A i j*S m (fun q=>cst n C (T.bas q)*T.a q (n+i)))=S m (fun i=>S m (fun q=>cst n C (T.bas q)*(T.a q (n+i)*mat m n A i j))):=by
    refine S_congr fun i _=>?_
    rw[←S_mul]
    refine S_congr fun q _=>?_
    have:mat m n A i j=A i j:=by unfold mat;rw[if_pos hj]
    rw[this];grind
   rw[e1,S_swap]
   refine S_congr fun q hq=>?_
   rw[S_mul,hS.a q j hq]
  show C j≤_
  rw[e]
  have e2:cst n C j=C j:=by unfold cst;rw[if_pos hj]
  rw[e2] at h1
  grind
 ·rw[←cst_sum (m:=m)]
  exact sum_bsol (wc_inv hI (fun _=>0)) (cst n C)
 ·show S m (fun i=>B i*S m (fun q=>cst n C (T.bas q)*T.a q (n+i)))=S m (fun q=>cst n C (T.bas q)*T.b q)
  have e1:S m (fun i=>B i*S m (fun q=>cst n C (T.bas q)*T.a q (n+i)))=S m (fun i=>S m (fun q=>cst n C (T.bas q)*(T.a q (n+i)*B i))):=by
   refine S_congr fun i _=>?_
   rw[←S_mul]
   exact S_congr fun q _=>by grind
  rw[e1,S_swap]
  refine S_congr fun q hq=>?_
  rw[S_mul,hS.b q hq]
theorem unb_of (hI:Inv0 m (n+m+1) T) (hR:REq m (n+m+1) T (tab0 m n A B)) (hb: ∀i,i<m→0≤T.b i) (hh: ¬Bas m T (n+m)) {s:Nat} (hs:s<n+m) (hc:0<(wc m T (cst n C)).c s) (hl: ∀i,i<m→T.a i s≤0):
  Unb m n A B C (bsol m T) (fun j=>(if j=s then 1 else 0)+S m (fun i=>if T.bas i=j then-T.a i s else 0)):=by
 have hIw:=wc_inv hI (cst n C)
 have hn: ¬Bas m (wc m T (cst n C)) s:=by
  rintro ⟨i,hi,e⟩;have:=hIw.cost i hi;rw[e] at this;rw[this] at hc
  exact Rat.lt_irrefl hc
 have ed: ∀j,ray m (wc m T (cst n C)) s 1 j-ray m (wc m T (cst n C)) s 0 j=(if j=s then 1 else 0)+S m (fun i=>if T.bas i=j then-T.a i s else 0):=by
  intro j
  unfold ray
  have:S m (fun i=>if(wc m T (cst n C)).bas i=j then(wc m T (cst n C)).b i-(wc m T (cst n C)).a i s*1 else 0)-S m (fun i=>if(wc m T (cst n C)).bas i=j then(wc m T (cst n C)).b i-(wc m T (cst n C)).a i s*0 else 0)=S m (fun i=>if T.bas i=j then-T.a i s else 0):=by
   rw[←S_sub]
   refine S_congr fun i _=>?_
   show(if T.bas i=j then T.b i-T.a i s*1 else 0)-(if T.bas i=j then T.b i-T.a i s*0 else 0)=_
   split<;>grind
  rw[←this]
  split<;>grind
 have r1:=(wc_sol (cst n C) _ _).1 (ray_sol hIw (show s<n+m+1 by omega) 1)
 have r0:=(wc_sol (cst n C) _ _).1 (ray_sol hIw (show s<n+m+1 by omega) 0)
 have t1:=(hR _).1 r1.1;have t0:=(hR _).1 r0.1
 have hpos: ∀j,0≤(if j=s then(1:Rat) else 0)+S m (fun i=>if T.bas i=j then-T.a i s else 0):=by
  intro j
  have h1:(0:Rat)≤if j=s then 1 else 0:=by split<;>decide
  have h2:0≤S m (fun i=>if T.bas i=j then-T.a i s else 0):=S_nonneg fun i hi=>by
   split
   ·have:=hl i hi;grind
   ·exact Rat.le_refl
  have:=Rat.add_le_add_right (c:=S m (fun i=>if T.bas i=j then-T.a i s else 0)).2 h1;rw[Rat.zero_add] at this
  exact Rat.le_trans h2 this
 have hH: ∀y,ray m (wc m T (cst n C)) s y (n+m)=0:=fun y=>by
  rw[ray_oth y (show ¬Bas m (wc m T (cst n C)) (n+m) from hh),if_neg (by omega)]
 refine⟨feas_of ((hR _).1 (bsol_rows hI)) (bsol_oth hh) fun j _=>bsol_nonneg hb j,fun j _=>hpos j,fun i hi=>?_,?_⟩
 ·have a1:=t1 i hi
  have a0:=t0 i hi;have b1:S (n+m+1) (fun j=>mat m n A i j*ray m (wc m T (cst n C)) s 1 j)=B i:=a1;have b0:S (n+m+1) (fun j=>mat m n A i j*ray m (wc m T (cst n C)) s 0 j)=B i:=a0;rw[mat_sum _ hi,hH] at b1 b0
  have e1:S n (fun j=>A i j*((if j=s then 1 else 0)+S m (fun i=>if T.bas i=j then-T.a i s else 0)))=S n (fun j=>A i j*ray m (wc m T (cst n C)) s 1 j)-S n (fun j=>A i j*ray m (wc m T (cst n C)) s 0 j):=by
   rw[←S_sub];exact S_congr fun j _=>by rw[←ed];grind
  rw[e1];have h2:=hpos (n+i);rw[←ed] at h2
  grind
 ·have e1:S n (fun j=>C j*((if j=s then 1 else 0)+S m (fun i=>if T.bas i=j then-T.a i s else 0)))=S (n+m+1) (fun j=>cst n C j*ray m (wc m T (cst n C)) s 1 j)-S (n+m+1) (fun j=>cst n C j*ray m (wc m T (cst n C)) s 0 j):=by
   rw[cst_sum,cst_sum,←S_sub];exact S_congr fun j _=>by rw[←ed];grind
  rw[e1,←r1.2,←r0.2]
  have:(wc m T (cst n C)).v+(wc m T (cst n C)).c s*1-((wc m T (cst n C)).v+(wc m T (cst n C)).c s*0)=(wc m T (cst n C)).c s:=by grind
  rw[this];exact hc
end
end Lp
namespace Lp
inductive Climb (m N:Nat) (ord:Nat→Nat) (al:Nat→Prop) (g:Nat→Rat):Nat→Tab→Tab→Prop
  |refl (T:Tab):Climb m N ord al g 0 T T
  |step {k:Nat} {T U:Tab} {r s:Nat} (h:Climb m N ord al g k T U) (st:Step m N ord al (wc m U g) r s):Climb m N ord al g (k+1) T (pivot U r s)
def Pos(m:Nat)(T:Tab):Prop:= ∀i,i<m→0≤T.b i
section
variable {m n N:Nat} {ord:Nat→Nat} {al:Nat→Prop} {g:Nat→Rat} {T U V:Tab} {k:Nat} {A:Nat→Nat→Rat} {B:Nat→Rat}
theorem Step.pne{r s:Nat}(st:Step m N ord al (wc m U g) r s):U.a r s≠0:=Rat.ne_of_gt st.ars
theorem Step.inv0{r s:Nat}(st:Step m N ord al (wc m U g) r s)(h:Inv0 m N U):Inv0 m N (pivot U r s):=pivot_inv0 h st.hr st.hs st.pne (st.nb (wc_inv h g))
theorem Step.pos0 {r s:Nat} (st:Step m N ord al (wc m U g) r s) (h:Pos m U):Pos m (pivot U r s):=fun i hi=>by
 have:=st.pos h i hi
 rwa [←wc_pivot st.hr st.pne] at this
theorem Climb.all (h:Climb m N ord al g k T U) (hI:Inv0 m N T) (hp:Pos m T):Inv0 m N U∧Pos m U∧REq m N U T:=by
 induction h with
 |refl T=>exact⟨hI,hp,fun _=>Iff.rfl⟩
 |step h st ih=>
  obtain⟨a,b,c⟩:=ih hI hp
  exact⟨st.inv0 a,st.pos0 b,fun x=>(pivot_rows st.hr st.pne x).trans (c x)⟩
theorem Climb.src (h:Climb m N ord al g k T U) (hs:Src m n A B T):Src m n A B U:=by
 induction h with
 |refl T=>exact hs
 |step h st ih=>exact(ih hs).pivot st.hr
theorem Climb.run (h:Climb m N ord al g k T U) (hI:Inv0 m N T) (hp:Pos m T): ∃(R:Nat→Tab) (r s:Nat→Nat),Run m N ord al (fun i=>wc m (R i) g) r s k∧R k=U:=by
 induction h with
 |refl T=>exact⟨fun _=>T,fun _=>0,fun _=>0,⟨fun i _=>wc_inv hI g,fun i _=>hp,fun i hi=>absurd hi (by omega),fun i hi=>absurd hi (by omega)⟩,rfl⟩
 | @step k T U r s h st ih=>
  obtain⟨R,r',s',hr,hk⟩:=ih hI hp;obtain⟨a,b,_⟩:=h.all hI hp
  refine⟨fun i=>if i≤k then R i else pivot U r s,fun i=>if i<k then r' i else r,fun i=>if i<k then s' i else s,⟨fun i hi=>?_,fun i hi=>?_,fun i hi=>?_,fun i hi=>?_⟩,if_neg (by omega)⟩
  ·by_cases e:i≤k
   ·simp only[if_pos e];exact hr.inv i e
   ·simp only[if_neg e];exact wc_inv (st.inv0 a) g
  ·by_cases e:i≤k
   ·simp only[if_pos e];exact hr.pos i e
   ·simp only[if_neg e];exact st.pos0 b
  ·by_cases e:i<k
   ·simp only[if_pos e,if_pos (show i≤k by omega)];exact hr.step i e
   ·have:i=k:=by omega
    subst this
    simp only[if_neg e,if_pos (Nat.le_refl i),hk];exact st
  ·by_cases e:i<k
   ·simp only[if_pos e,if_pos (show i≤k by omega),if_pos (show i+1≤k by omega)];exact hr.next i e
   ·have:i=k:=by omega
    subst this
    simp only[if_neg e,if_pos (Nat.le_refl i),if_neg (show ¬i+1≤i by omega),hk]
    exact wc_pivot st.hr st.pne g
theorem Climb.short (h:Climb m N ord al g k T U) (hI:Inv0 m N T) (hp:Pos m T) (hord: ∀i j,ord i=ord j→i=j):k<2^N:=by
 obtain⟨R,r,s,hr,_⟩:=h.run hI hp
 exact hr.short hord
theorem Step.same {r s r' s':Nat} (hI:Inv m N T) (hord: ∀i j,ord i=ord j→i=j) (h:Step m N ord al T r s) (h':Step m N ord al T r' s'):r=r'∧s=s':=by
 have es:s=s':=by
  apply hord
  rcases Nat.lt_trichotomy (ord s) (ord s') with hl|he|hl
  ·exact absurd (h'.least s h.hs h.als hl) (Rat.not_le.2 h.cs)
  ·exact he
  ·exact absurd (h.least s' h'.hs h'.als hl) (Rat.not_le.2 h'.cs)
 subst es
 refine⟨?_,rfl⟩
 have h1:=h.ratio r' h'.hr h'.ars;have h2:=h'.ratio r h.hr h.ars;have t1:=h.tie r' h'.hr h'.ars (Rat.le_antisymm h1 h2);have t2:=h'.tie r h.hr h.ars (Rat.le_antisymm h2 h1)
 exact hI.inj h.hr h'.hr (hord _ _ (by omega))
def Stop(m N:Nat)(ord:Nat→Nat)(al:Nat→Prop)(g:Nat→Rat)(T:Tab):Prop:= ∀r s,¬Step m N ord al (wc m T g) r s
theorem Climb.same (hord: ∀i j,ord i=ord j→i=j) (hI:Inv0 m N T) (hp:Pos m T) (h:Climb m N ord al g k T U) (h':Climb m N ord al g k T V):U=V:=by
 induction k generalizing U V with
 |zero=>cases h;cases h';rfl
 | succ k ih=>
  cases h with
  | step h st=>
   cases h' with
   |step h' st'=>
    obtain rfl:=ih h h';obtain⟨rfl,rfl⟩:=Step.same (wc_inv (h.all hI hp).1 g) hord st st'
    rfl
theorem Climb.prefix' {j:Nat} (h:Climb m N ord al g k T U) (hj:j<k): ∃V r s,Climb m N ord al g j T V∧Step m N ord al (wc m V g) r s:=by
 induction h with
 |refl T=>exact absurd hj (by omega)
 | @step k T U r s h st ih=>
  by_cases e:j=k
  ·subst e;exact⟨U,r,s,h,st⟩
  ·exact ih (by omega)
theorem Climb.last {k':Nat} (hord: ∀i j,ord i=ord j→i=j) (hI:Inv0 m N T) (hp:Pos m T) (h:Climb m N ord al g k T U) (h':Climb m N ord al g k' T V) (hu:Stop m N ord al g U) (hv:Stop m N ord al g V):U=V:=by
 rcases Nat.lt_trichotomy k k' with hl|he|hl
 ·obtain⟨W,r,s,hw,st⟩:=h'.prefix' hl
  obtain rfl:=Climb.same hord hI hp h hw
  exact absurd st (hu r s)
 ·subst he;exact Climb.same hord hI hp h h'
 ·obtain⟨W,r,s,hw,st⟩:=h.prefix' hl
  obtain rfl:=Climb.same hord hI hp h' hw
  exact absurd st (hv r s)
def End(m N:Nat)(al:Nat→Prop)(g:Nat→Rat)(T:Tab):Prop:= ∀j,j<N→al j→(wc m T g).c j≤0
theorem End.stop(h:End m N al g T):Stop m N ord al g T:=fun _ s st=>absurd (h s st.hs st.als) (Rat.not_le.2 st.cs)
structure Free (m N:Nat) (ord:Nat→Nat) (al:Nat→Prop) (g:Nat→Rat) (T:Tab) (s:Nat):Prop where
  hs:s<N
  als:al s
  cs:0<(wc m T g).c s
  least: ∀j,j<N→al j→ord j<ord s→(wc m T g).c j≤0
  no: ∀i,i<m→T.a i s≤0
theorem Free.stop {s:Nat} (hord: ∀i j,ord i=ord j→i=j) (h:Free m N ord al g T s):Stop m N ord al g T:=fun r s' st=>by
 have es:s=s':=by
  apply hord
  rcases Nat.lt_trichotomy (ord s) (ord s') with hl|he|hl
  ·exact absurd (st.least s h.hs h.als hl) (Rat.not_le.2 h.cs)
  ·exact he
  ·exact absurd (h.least s' st.hs st.als hl) (Rat.not_le.2 st.cs)
 subst es
 exact absurd (h.no r st.hr) (Rat.not_le.2 st.ars)
def hc(H j:Nat):Rat:=if j=H then-1 else 0
theorem hc_sum (h:Inv0 m N T) {H i:Nat} (hi:i<m) (e:T.bas i=H) (f:Nat→Rat):S m (fun q=>hc H (T.bas q)*f q)= -f i:=by
 rw[S_single (k:=i) hi]
 ·unfold hc;rw[if_pos e];grind
 ·intro j hj hne
  unfold hc
  rw[if_neg (fun e2=>hne (h.inj hj hi (by rw[e2,e]))),Rat.zero_mul]
theorem hc_sum0 {H:Nat} (h: ¬Bas m T H) (f:Nat→Rat):S m (fun q=>hc H (T.bas q)*f q)=0:=
 S_eq0 fun q hq=>by unfold hc;rw[if_neg (fun e=>h ⟨q,hq,e⟩),Rat.zero_mul]
theorem hc_limit (h:Inv0 m N T) {H s:Nat} (hs:0<(wc m T (hc H)).c s): ∃i,i<m∧T.bas i=H∧0<T.a i s:=by
 have h1:0<hc H s-S m (fun q=>hc H (T.bas q)*T.a q s):=hs
 have h2:hc H s≤0:=by unfold hc;split<;>decide
 by_cases hb:Bas m T H
 ·obtain⟨i,hi,e⟩:=hb
  rw[hc_sum h hi e] at h1
  exact⟨i,hi,e,by grind⟩
 ·rw[hc_sum0 hb] at h1
  grind
def HPos(m H:Nat)(T:Tab):Prop:= ∀i,i<m→T.bas i=H→0<T.b i
theorem Step.hpos {H r s:Nat} (hI:Inv0 m N U) (hord: ∀i j,ord i=ord j→i=j) (hH:ord H=0) (hal: ¬al H) (st:Step m N ord al (wc m U g) r s) (hp:Pos m U) (hh:HPos m H U):HPos m H (pivot U r s):=by
 intro i hi e
 by_cases c:i=r
 ·subst c
  have:s=H:=by simpa [pivot] using e
  subst this
  exact absurd st.als hal
 ·have eb:U.bas i=H:=by simpa [pivot,c] using e
  have h0:=hh i hi eb
  show 0<(if i=r then _ else _)
  rw[if_neg c];have hq:0≤U.b r/U.a r s:=div_nonneg (hp r st.hr) st.ars
  rcases Classical.em (0<U.a i s) with hpos|hn
  ·have h1:U.b r*U.a i s≤U.b i*U.a r s:=st.ratio i hi hpos
   have h2:U.b r*U.a i s≠U.b i*U.a r s:=fun e2=>by
    have h3:=st.tie i hi hpos e2;have h4:ord (U.bas r)≤ord (U.bas i):=h3;rw[eb,hH] at h4
    exact c (hI.inj hi st.hr (by rw[eb];exact hord _ _ (by omega)))
   have h3:U.b r*U.a i s<U.b i*U.a r s:=Rat.lt_of_le_of_ne h1 h2
   have h4:U.a i s*(U.b r/U.a r s)*U.a r s<U.b i*U.a r s:=by
    rw[Rat.mul_assoc,Rat.div_mul_cancel st.pne,Rat.mul_comm];exact h3
   have h5:U.a i s*(U.b r/U.a r s)<U.b i:=Rat.not_le.1 fun hle=>Rat.not_lt.2 (Rat.mul_le_mul_of_nonneg_right hle (Rat.le_of_lt st.ars)) h4
   grind
  ·have h1:U.a i s≤0:=Rat.not_lt.1 hn
   have h2:U.a i s*(U.b r/U.a r s)≤0:=by
    have:=Rat.mul_le_mul_of_nonneg_right h1 hq
    rwa [Rat.zero_mul] at this
   grind
theorem Climb.hpos {H:Nat} (hord: ∀i j,ord i=ord j→i=j) (hH:ord H=0) (hal: ¬al H) (h:Climb m N ord al g k T U) (hI:Inv0 m N T) (hp:Pos m T) (hh:HPos m H T):HPos m H U:=by
 induction h with
 |refl T=>exact hh
 |step h st ih=>
  obtain⟨a,b,_⟩:=h.all hI hp
  exact st.hpos a hord hH hal b (ih hI hp hh)
theorem begin_ok {r : Nat} (hr : r<m) (hneg:B r<0) (hl: ∀i,i<m→B r≤B i):Inv0 m (n+m+1) (pivot (tab0 m n A B) r (n+m))∧Pos m (pivot (tab0 m n A B) r (n+m))∧HPos m (n+m) (pivot (tab0 m n A B) r (n+m))∧REq m (n+m+1) (pivot (tab0 m n A B) r (n+m)) (tab0 m n A B)∧Src m n A B (pivot (tab0 m n A B) r (n+m)):=by
  have e: ∀i,(tab0 m n A B).a i (n+m)= -1:=fun i=>by show mat m n A i (n+m)= -1;unfold mat;rw[if_neg (by omega),if_pos rfl]
  have ne:(tab0 m n A B).a r (n+m)≠0:=by rw[e];decide
  have nb: ¬Bas m (tab0 m n A B) (n+m):=fun⟨i,hi,h⟩=>by have:n+i=n+m:=h;omega
  have eb : ∀ i, (pivot (tab0 m n A B) r (n+m)).b i=if i=r then-B r else B i-B r:=fun i=>by
    show(if i=r then B r/(tab0 m n A B).a r (n+m) else B i-(tab0 m n A B).a i (n+m)*(B r/(tab0 m n A B).a r (n+m)))=_
    rw[e,e]
    have : B r / -1 = -B r := by rw[Rat.div_def];have:(-1:Rat)⁻¹= -1:=by decide+kernel
                                 rw[this];grind
    rw[this];split<;>grind
  refine⟨pivot_inv0 tab0_inv hr (by omega) ne nb,fun i hi=>?_,fun i hi eh=>?_,fun x=>pivot_rows hr ne x,tab0_src.pivot hr⟩
  ·rw[eb];have:=hl i hi;split<;>grind
  · rw[eb]
    by_cases c:i=r
    ·rw[if_pos c];grind
    · exfalso
      have:n+i=n+m:=by simpa [pivot,c,tab0] using eh
      omega
theorem empty_of (hR:REq m (n+m+1) T (tab0 m n A B)) (hI:Inv0 m (n+m+1) T) (hh:HPos m (n+m) T) (hb:Bas m T (n+m)) (he:End m (n+m+1) (fun j=>j<n+m) (hc (n+m)) T) (x:Nat→Rat): ¬Feas m n A B x:=by
 intro hf
 obtain⟨i,hi,e⟩:=hb;have h1:=(hR _).2 (ext_rows (m:=m) (n:=n) (A:=A) (B:=B) x);have h2:=(wc_sol (hc (n+m)) _ _).2 ⟨h1,rfl⟩;have h3:=h2.2
 have z0:S (n+m+1) (fun j=>hc (n+m) j*ext m n A B x j)=0:=S_eq0 fun j _=>by
  unfold hc
  by_cases c:j=n+m
  ·rw[c];have:ext m n A B x (n+m)=0:=by unfold ext;rw[if_neg (by omega),if_neg (by omega)]
   rw[this,Rat.mul_zero]
  ·rw[if_neg c,Rat.zero_mul]
 have hv:(wc m T (hc (n+m))).v= -T.b i:=hc_sum hI hi e T.b
 have hs:S (n+m+1) (fun j=>(wc m T (hc (n+m))).c j*ext m n A B x j)≤0:=by
  have:S (n+m+1) (fun j=>(wc m T (hc (n+m))).c j*ext m n A B x j)≤S (n+m+1) (fun _=>0):=S_le fun j hj=>by
   by_cases c:j=n+m
   ·rw[c];have:ext m n A B x (n+m)=0:=by unfold ext;rw[if_neg (by omega),if_neg (by omega)]
    rw[this,Rat.mul_zero];exact Rat.le_refl
   ·have:=Rat.mul_le_mul_of_nonneg_right (he j hj (by show j<n+m;omega)) (ext_nonneg hf j)
    rwa [Rat.zero_mul] at this
  rwa [S_eq0 (f:=fun _=>0) fun _ _=>rfl] at this
 rw[z0,hv] at h3;have:=hh i hi e
 grind
end
end Lp
namespace Lp
def Q(D H:Nat)(q:Rat):Prop:= ∃z:Int,q*((D:Int):Rat)=(z:Rat)∧z.natAbs≤H
theorem cast_mul(a b:Int):((a*b:Int):Rat)=(a:Rat)*(b:Rat):=by simp
theorem Q.mono{D H H':Nat}{q:Rat}(h:Q D H q)(hl:H≤H'):Q D H' q:=let⟨z,a,b⟩:=h;⟨z,a,Nat.le_trans b hl⟩
theorem Q.mul {D E H H':Nat} {p q:Rat} (hp:Q D H p) (hq:Q E H' q):Q (D*E) (H*H') (p*q):=by
 obtain⟨y,a,b⟩:=hp;obtain⟨z,c,d⟩:=hq
 refine⟨y*z,?_,by rw[Int.natAbs_mul];exact Nat.mul_le_mul b d⟩
 rw[cast_mul,←a,←c,show(((D*E:Nat):Int))=(D:Int)*(E:Int) by simp,cast_mul]
 grind
theorem Q.add {D H H':Nat} {p q:Rat} (hp:Q D H p) (hq:Q D H' q):Q D (H+H') (p+q):=by
 obtain⟨y,a,b⟩:=hp;obtain⟨z,c,d⟩:=hq
 refine⟨y+z,?_,by omega⟩
 have:((y+z:Int):Rat)=(y:Rat)+(z:Rat):=by simp
 rw[this,←a,←c];grind
theorem Q.neg {D H:Nat} {p:Rat} (hp:Q D H p):Q D H (-p):=by
 obtain⟨y,a,b⟩:=hp
 refine⟨-y,?_,by omega⟩
 have:((-y:Int):Rat)= -(y:Rat):=by simp
 rw[this,←a];grind
theorem Q.sub {D H H':Nat} {p q:Rat} (hp:Q D H p) (hq:Q D H' q):Q D (H+H') (p-q):=by
 rw[Rat.sub_eq_add_neg];exact hp.add hq.neg
theorem Q.zero(D H:Nat):Q D H 0:=⟨0,by rw[Rat.zero_mul];rfl,by simp⟩
theorem Q.scale {D H:Nat} {p:Rat} (hp:Q D H p) (k:Nat):Q (D*k) (H*k) p:=by
 have:=hp.mul (show Q k k 1 from⟨k,by rw[Rat.one_mul],by simp⟩)
 rwa [Rat.mul_one] at this
theorem Q.S {D H:Nat} {n:Nat} {f:Nat→Rat} (h: ∀k,k<n→Q D H (f k)):Q D (n*H) (S n f):=by
 induction n with
 |zero=>rw[S_zero];exact Q.zero _ _
 |succ n ih=>
  rw[S_succ,Nat.succ_mul]
  exact(ih fun k hk=>h k (by omega)).add (h n (by omega))
theorem Q.parts {D H:Nat} {q:Rat} (hD:0<D) (h:Q D H q):q.num.natAbs≤H∧q.den≤D:=by
 obtain⟨z,a,b⟩:=h
 have hD0:((D:Int):Rat)≠0:=by
  intro e
  have:((D:Int):Rat)=((0:Int):Rat):=e;rw[Rat.intCast_inj] at this
  omega
 have e:q=(z:Rat)/((D:Int):Rat):=by
  rw[←a,Rat.div_def,Rat.mul_assoc,Rat.mul_inv_cancel _ hD0,Rat.mul_one]
 have e2:q.num*(D:Int)=z*(q.den:Int):=by
  have h1:((q.num:Int):Rat)=q*((q.den:Int):Rat):=by
   have h3:(q.num:Rat)/((q.den:Nat):Rat)=q:=by rw[←Rat.mkRat_eq_div,Rat.mkRat_self]
   have h4:((q.den:Nat):Rat)≠0:=fun e=>by
    have:((q.den:Nat):Rat)=((0:Nat):Rat):=e;rw[Rat.natCast_inj] at this
    exact q.den_nz this
   have h5:(q.num:Rat)=q*((q.den:Nat):Rat):=by
    conv=>rhs;lhs;rw[←h3]
    rw[Rat.div_mul_cancel h4]
   exact h5
  have h2:((q.num*(D:Int):Int):Rat)=((z*(q.den:Int):Int):Rat):=by
   rw[cast_mul,cast_mul,h1,←a];grind
  exact Rat.intCast_inj.1 h2
 have cop:=q.reduced
 have e3:q.num.natAbs*D=z.natAbs*q.den:=by
  have:=congrArg Int.natAbs e2
  rwa [Int.natAbs_mul,Int.natAbs_mul,Int.natAbs_natCast,Int.natAbs_natCast] at this
 have d1:q.den∣D:=by
  have:q.den∣q.num.natAbs*D:=⟨z.natAbs,by rw[e3,Nat.mul_comm]⟩
  exact(Nat.Coprime.symm cop).dvd_of_dvd_mul_left this
 refine⟨?_,Nat.le_of_dvd hD d1⟩
 obtain⟨t,ht⟩:=d1;have hd:0<q.den:=q.den_pos
 have e4:q.num.natAbs*t=z.natAbs:=by
  rw[ht] at e3
  have:q.den*(q.num.natAbs*t)=q.den*z.natAbs:=by rw[←Nat.mul_assoc,Nat.mul_comm q.den,Nat.mul_assoc,e3,Nat.mul_comm]
  exact Nat.eq_of_mul_eq_mul_left hd this
 have ht0:0<t:=by
  rcases Nat.eq_zero_or_pos t with h0|h0
  ·subst h0;omega
  ·exact h0
 have:q.num.natAbs≤q.num.natAbs*t:=Nat.le_mul_of_pos_right _ ht0
 omega
structure Bnd (m N D H:Nat) (T:Tab):Prop where
  pos:0<D
  le:D≤H
  a: ∀i j,i<m→j<N→Q D H (T.a i j)
  b: ∀i,i<m→Q D H (T.b i)
section
variable {m n N:Nat} {T U:Tab} {A:Nat→Nat→Rat} {B:Nat→Rat}
theorem q_pivot {D H:Nat} (hD:0<D) (hle:D≤H) {p:Rat} (hp:p≠0) (hq:Q D H p): ∃E,0<E∧E≤2*H*H∧(∀x,Q D H x→Q E (2*H*H) (x/p))∧∀x y z,Q D H x→Q D H y→Q D H z→Q E (2*H*H) (x-y*(z/p)):=by
 obtain⟨w,hw,hb⟩:=hq
 have hw0:w≠0:=fun e=>by
  rw[e] at hw;have h1:p*((D:Int):Rat)=0:=hw
  rcases Rat.mul_eq_zero.1 h1 with h2|h2
  ·exact hp h2
  ·have:((D:Int):Rat)=((0:Int):Rat):=h2
   rw[Rat.intCast_inj] at this;omega
 -- |w| = s * w with s = 1 or -1
 obtain⟨s,hs,hs1⟩: ∃s:Int,(w.natAbs:Int)=s*w∧(s=1∨s= -1):=by
  rcases Int.lt_or_le w 0 with h|h
  ·exact⟨-1,by omega,.inr rfl⟩
  ·exact⟨1,by omega,.inl rfl⟩
 have hsa:s.natAbs=1:=by rcases hs1 with rfl|rfl<;>rfl
 have hE:((((D*w.natAbs:Nat):Int):Rat))=((D:Int):Rat)*((s:Rat)*(w:Rat)):=by
  rw[show((D*w.natAbs:Nat):Int)=(D:Int)*(s*w) by rw[←hs];simp,cast_mul,cast_mul]
 have hdiv: ∀x:Rat,x/p*(p*((D:Int):Rat))=x*((D:Int):Rat):=fun x=>by
  rw[←Rat.mul_assoc,Rat.div_mul_cancel hp]
 have h2:D*H≤2*H*H:=Nat.le_trans (Nat.mul_le_mul_right H hle) (by rw[Nat.mul_assoc];omega)
 refine⟨D*w.natAbs,Nat.mul_pos hD (Int.natAbs_pos.2 hw0),Nat.le_trans (Nat.mul_le_mul hle hb) (by rw[Nat.mul_assoc];omega),?_,?_⟩
 ·rintro x ⟨u,hu,hub⟩
  refine⟨D*(s*u),?_,?_⟩
  ·rw[hE,←hw,cast_mul,cast_mul,←hu]
   have:=hdiv x
   grind
  ·rw[Int.natAbs_mul,Int.natAbs_mul,hsa,Nat.one_mul,Int.natAbs_natCast]
   exact Nat.le_trans (Nat.mul_le_mul_left D hub) h2
 ·rintro x y z ⟨u,hu,hub⟩ ⟨v,hv,hvb⟩ ⟨t,ht,htb⟩
  refine⟨u*(s*w)-v*(s*t),?_,?_⟩
  ·have e1:((u*(s*w)-v*(s*t):Int):Rat)=(u:Rat)*((s:Rat)*(w:Rat))-(v:Rat)*((s:Rat)*(t:Rat)):=by
    rw[Rat.intCast_sub,cast_mul,cast_mul,cast_mul,cast_mul]
   rw[hE,e1,←hu,←hv,←ht,←hw];have:=hdiv z
   grind
  ·have h3:(u*(s*w)).natAbs≤H*H:=by
    rw[Int.natAbs_mul,Int.natAbs_mul,hsa,Nat.one_mul];exact Nat.mul_le_mul hub hb
   have h4:(v*(s*t)).natAbs≤H*H:=by
    rw[Int.natAbs_mul,Int.natAbs_mul,hsa,Nat.one_mul];exact Nat.mul_le_mul hvb htb
   have:2*H*H=H*H+H*H:=by rw[Nat.mul_assoc];omega
   omega
theorem Bnd.pivot {D H:Nat} (h:Bnd m N D H U) {r s:Nat} (hr:r<m) (hs:s<N) (hp:U.a r s≠0): ∃E,Bnd m N E (2*H*H) (pivot U r s):=by
 obtain⟨E,e0,e1,e2,e3⟩:=q_pivot h.pos h.le hp (h.a r s hr hs)
 refine⟨E,e0,e1,fun i j hi hj=>?_,fun i hi=>?_⟩
 ·show Q E _ (if i=r then _ else _)
  split
  ·exact e2 _ (h.a r j hr hj)
  ·exact e3 _ _ _ (h.a i j hi hj) (h.a i s hi hs) (h.a r j hr hj)
 ·show Q E _ (if i=r then _ else _)
  split
  ·exact e2 _ (h.b r hr)
  ·exact e3 _ _ _ (h.b i hi) (h.a i s hi hs) (h.b r hr)
theorem two_tabs (hU:Inv0 m N U) (h:REq m N U T) {s:Nat} (hs:s<N) {i:Nat} (hi:i<m) (y:Rat):T.a i s*y+S m (fun k=>T.a i (U.bas k)*(U.b k-U.a k s*y))=T.b i:=by
 have h1:=(wc_sol (fun _=>0) _ _).1 (ray_sol (wc_inv hU (fun _=>0)) hs y);have h2:=(h _).1 h1.1 i hi;rw[sum_ray (wc_inv hU (fun _=>0)) hs y (T.a i)] at h2
 exact h2
theorem tab_of_bas (hT:Inv0 m N T) (hU:Inv0 m N U) (h:REq m N U T) (hb: ∀i,i<m→Bas m T (U.bas i)) {i k:Nat} (hi:i<m) (hk:k<m) (e:U.bas k=T.bas i):T.b i=U.b k∧∀s,s<N→T.a i s=U.a k s:=by
 have key: ∀s,s<N→∀y,T.a i s*y+(U.b k-U.a k s*y)=T.b i:=by
  intro s hs y
  have h1:=two_tabs hU h hs hi y;rw[S_single (k:=k) hk] at h1
  ·rw[e,hT.unit i i hi hi,if_pos rfl,Rat.one_mul] at h1;exact h1
  ·intro q hq hne
   obtain⟨p,hp,ep⟩:=hb q hq;rw[←ep,hT.unit i p hi hp,if_neg,Rat.zero_mul]
   intro e2
   subst e2
   exact hne (hU.inj hq hk (by rw[←ep,e]))
 rcases Nat.eq_zero_or_pos N with h0|h0
 ·exact absurd (hT.bas i hi) (by omega)
 ·refine⟨?_,fun s hs=>?_⟩
  ·have:=key 0 h0 0
   grind
  ·have k0:=key s hs 0
   have k1:=key s hs 1
   grind
open Classical in
/-- how many of T's basic variables are not basic in U -/
noncomputable def miss (m:Nat) (T U:Tab):Nat→Nat
  |0=>0
  |i+1=>miss m T U i+if Bas m U (T.bas i) then 0 else 1
open Classical in
theorem miss_zero (k:Nat) (h:miss m T U k=0): ∀i,i<k→Bas m U (T.bas i):=by
 induction k with
 |zero=>intro i hi;omega
 | succ k ih=>
  intro i hi
  unfold miss at h
  by_cases c:Bas m U (T.bas k)
  ·rcases Nat.lt_or_ge i k with hl|hl
   ·exact ih (by omega) i hl
   ·have:i=k:=by omega
    subst this;exact c
  ·rw[if_neg c] at h;omega
open Classical in
theorem miss_pos (k:Nat) (h:0<miss m T U k): ∃i,i<k∧¬Bas m U (T.bas i):=by
 induction k with
 |zero=>simp[miss] at h
 | succ k ih=>
  by_cases c:Bas m U (T.bas k)
  ·unfold miss at h
   rw[if_pos c] at h
   obtain⟨i,hi,hb⟩:=ih (by omega)
   exact⟨i,by omega,hb⟩
  ·exact⟨k,by omega,c⟩
open Classical in
theorem miss_mono {V:Tab} (k:Nat) (hk: ∀i,i<k→Bas m U (T.bas i)→Bas m V (T.bas i)):miss m T V k≤miss m T U k:=by
 induction k with
 |zero=>exact Nat.le_refl _
 |succ k ih=>
  have h1:=ih fun i hi=>hk i (by omega)
  have h2:=hk k (by omega)
  unfold miss
  by_cases c:Bas m U (T.bas k)
  ·rw[if_pos c,if_pos (h2 c)];omega
  ·rw[if_neg c];split<;>omega
open Classical in
theorem miss_less {V:Tab} (k:Nat) (hk: ∀i,i<k→Bas m U (T.bas i)→Bas m V (T.bas i)) {q:Nat} (hq:q<k) (h0: ¬Bas m U (T.bas q)) (h1:Bas m V (T.bas q)):miss m T V k<miss m T U k:=by
 induction k with
 |zero=>omega
 | succ k ih=>
  unfold miss
  rcases Nat.lt_or_ge q k with hl|hl
  ·have h3:=ih (fun i hi=>hk i (by omega)) hl
   have h2:=hk k (by omega)
   by_cases c:Bas m U (T.bas k)
   ·rw[if_pos c,if_pos (h2 c)];omega
   ·rw[if_neg c];split<;>omega
  ·have:q=k:=by omega
   subst this
   have h3:=miss_mono (m:=m) (T:=T) (U:=U) (V:=V) q fun i hi=>hk i (by omega)
   rw[if_neg h0,if_pos h1];omega
theorem miss_le (k:Nat):miss m T U k≤k:=by
 induction k with
 |zero=>exact Nat.le_refl _
 |succ k ih=>unfold miss;split<;>omega
def grow:Nat→Nat→Nat
  |0,H=>H
  |k+1,H=>grow k (2*H*H)
theorem le_sq {H:Nat}:H≤2*H*H:=by
 rcases Nat.eq_zero_or_pos H with h|h
 ·subst h;exact Nat.le_refl _
 ·rw[Nat.mul_assoc,Nat.mul_comm 2,Nat.mul_assoc];exact Nat.le_mul_of_pos_right _ (by omega)
theorem grow_mono {k l H G:Nat} (hk:k≤l) (hH:H≤G):grow k H≤grow l G:=by
  induction l generalizing k H G with
  | zero => have:k=0:=by omega
            subst this;exact hH
  | succ l ih=>
    cases k with
    |zero=>exact Nat.le_trans (Nat.le_trans hH le_sq) (ih (k:=0) (Nat.zero_le l) (Nat.le_refl _))
    |succ k=>exact ih (k:=k) (by omega) (Nat.mul_le_mul (Nat.mul_le_mul_left 2 hH) hH)
theorem reach (hT:Inv0 m N T): ∀(k:Nat) (U:Tab) {D H:Nat},Inv0 m N U→REq m N U T→miss m T U m≤k→Bnd m N D H U→∃E,Bnd m N E (grow k H) T:=by
 intro k
 induction k with
 | zero=>
  intro U D H hU hR hm hB
  have hb:=miss_zero m (by omega:miss m T U m=0)
  refine⟨D,hB.pos,hB.le,fun i j hi hj=>?_,fun i hi=>?_⟩<;>
  ·obtain⟨k,hk,e⟩:=hb i hi
   have hall: ∀q,q<m→Bas m T (U.bas q):=by
    -- m variables that are basic in T and in U: all of U's
    apply Classical.byContradiction
    intro hc
    have: ∃q,q<m∧¬Bas m T (U.bas q):=by
     apply Classical.byContradiction
     intro hc2
     exact hc fun q hq=>Classical.byContradiction fun hc3=>hc2 ⟨q,hq,hc3⟩
    obtain⟨q,hq,hqn⟩:=this
    -- the map from T's rows to U's rows is injective, and leaves q out
    obtain⟨f,hf⟩: ∃f:Nat→Nat,∀i,i<m→f i<m∧U.bas (f i)=T.bas i:=by
     refine⟨fun i=>if h:i<m then(hb i h).choose else 0,fun i hi=>?_⟩
     simp only[dif_pos hi]
     exact(hb i hi).choose_spec
    have hfq: ∀i,i<m→f i≠q:=fun i hi e=>hqn ⟨i,hi,by rw[←(hf i hi).2,e]⟩
    obtain⟨u,v,huv,hv,ef⟩:=pigeon (m-1) (fun i=>if f i<q then f i else f i-1) (fun i hi=>by
     have h1:=(hf i (by omega)).1
     have h2:=hfq i (by omega)
     show(if f i<q then f i else f i-1)<m-1
     split<;>omega)
    have h1:=hfq u (by omega)
    have h2:=hfq v (by omega)
    have e2:(if f u<q then f u else f u-1)=(if f v<q then f v else f v-1):=ef
    have e3:f u=f v:=by split at e2<;>split at e2<;>omega
    have:=hT.inj (by omega) (by omega) (show T.bas u=T.bas v by rw[←(hf u (by omega)).2,←(hf v (by omega)).2,e3])
    omega
   have:=tab_of_bas hT hU hR hall hi hk e
   first
    |(rw[this.2 j hj];exact hB.a k j hk hj)
    |(rw[this.1];exact hB.b k hk)
 | succ k ih=>
  intro U D H hU hR hm hB
  rcases Nat.lt_or_ge (miss m T U m) (k+1) with hl|hl
  ·obtain⟨E,hE⟩:=ih U hU hR (by omega) hB
   have hg:grow k H≤grow (k+1) H:=grow_mono (by omega) (Nat.le_refl _)
   exact⟨E,hE.pos,Nat.le_trans hE.le hg,fun i j hi hj=>(hE.a i j hi hj).mono hg,fun i hi=>(hE.b i hi).mono hg⟩
  ·obtain⟨i,hi,hn⟩:=miss_pos m (by omega:0<miss m T U m)
   have hsN:T.bas i<N:=hT.bas i hi;have h0:=two_tabs hU hR hsN hi 0;have h1:=two_tabs hU hR hsN hi 1
   have hsum:S m (fun k=>T.a i (U.bas k)*U.a k (T.bas i))=1:=by
    have e:S m (fun k=>T.a i (U.bas k)*(U.b k-U.a k (T.bas i)*1))=S m (fun k=>T.a i (U.bas k)*(U.b k-U.a k (T.bas i)*0))-S m (fun k=>T.a i (U.bas k)*U.a k (T.bas i)):=by
     rw[←S_sub];exact S_congr fun q _=>by grind
    rw[e] at h1;rw[hT.unit i i hi hi,if_pos rfl] at h0 h1
    grind
   have hex: ∃r,r<m∧T.a i (U.bas r)*U.a r (T.bas i)≠0:=by
    apply Classical.byContradiction
    intro hc
    rw[S_eq0 fun r hr=>Classical.byContradiction fun h=>hc ⟨r,hr,h⟩] at hsum
    exact absurd hsum (by decide)
   obtain⟨r,hr,hne⟩:=hex
   have hp:U.a r (T.bas i)≠0:=fun e=>hne (by rw[e,Rat.mul_zero])
   have hqn:T.a i (U.bas r)≠0:=fun e=>hne (by rw[e,Rat.zero_mul])
   have hrT: ¬Bas m T (U.bas r):=by
    rintro ⟨p,hp',e⟩;rw[←e,hT.unit i p hi hp'] at hqn
    by_cases c:i=p
    ·subst c;exact hn ⟨r,hr,e.symm⟩
    ·rw[if_neg c] at hqn;exact hqn rfl
   obtain⟨E,hE⟩:=hB.pivot hr hsN hp
   refine ih (pivot U r (T.bas i)) (pivot_inv0 hU hr hsN hp hn) (fun x=>(pivot_rows hr hp x).trans (hR x)) ?_ hE
   have:=miss_less (m:=m) (T:=T) (U:=U) (V:=pivot U r (T.bas i)) m (fun q hq ⟨p,hp',e⟩=>⟨p,hp',by
    show(if p=r then _ else U.bas p)=_
    rw[if_neg]
    ·exact e
    ·intro e2;subst e2;exact hrT ⟨q,hq,e.symm⟩⟩) hi hn ⟨r,hr,by show(if r=r then _ else _)=_;rw[if_pos rfl]⟩
   omega
end
end Lp
namespace Lp
def ordP(H j:Nat):Nat:=if j=H then 0 else j+1
theorem ordP_inj {H i j:Nat} (h:ordP H i=ordP H j):i=j:=by
 unfold ordP at h
 split at h<;>split at h<;>omega
def alP(m n:Nat)(bar:Nat→Prop)(j:Nat):Prop:=j<n+m∧¬bar j
structure Low (m:Nat) (B:Nat→Rat) (r:Nat):Prop where
  lt:r<m
  neg:B r<0
  min: ∀i,i<m→B r≤B i
  first: ∀i,i<r→B r<B i
theorem Low.same {m r r':Nat} {B:Nat→Rat} (h:Low m B r) (h':Low m B r'):r=r':=by
 rcases Nat.lt_trichotomy r r' with hl|he|hl
 ·exact absurd (h'.first r hl) (Rat.not_lt.2 (h.min r' h'.lt))
 ·exact he
 ·exact absurd (h.first r' hl) (Rat.not_lt.2 (h'.min r h.lt))
def noBar:Nat→Prop:=fun _=>False
inductive Ph1 (m n:Nat) (A:Nat→Nat→Rat) (B:Nat→Rat):Tab→Prop
  |none (h: ∀i,i<m→0≤B i):Ph1 m n A B (tab0 m n A B)
  |some {r k:Nat} {U:Tab} (h:Low m B r) (hk:Climb m (n+m+1) (ordP (n+m)) (alP m n noBar) (hc (n+m)) k (pivot (tab0 m n A B) r (n+m)) U) (he:End m (n+m+1) (alP m n noBar) (hc (n+m)) U):Ph1 m n A B U
inductive SolP (m n:Nat) (A:Nat→Nat→Rat) (B C:Nat→Rat):Nat→Tab→Prop
  |empty {U:Tab} (h:Ph1 m n A B U) (hb:Bas m U (n+m)):SolP m n A B C 1 U
  |ok {U V:Tab} {k:Nat} (h:Ph1 m n A B U) (hb: ¬Bas m U (n+m)) (hk:Climb m (n+m+1) (ordP (n+m)) (alP m n noBar) (cst n C) k U V) (he:End m (n+m+1) (alP m n noBar) (cst n C) V):SolP m n A B C 0 V
  |unb {U V:Tab} {k s:Nat} (h:Ph1 m n A B U) (hb: ¬Bas m U (n+m)) (hk:Climb m (n+m+1) (ordP (n+m)) (alP m n noBar) (cst n C) k U V) (he:Free m (n+m+1) (ordP (n+m)) (alP m n noBar) (cst n C) V s):SolP m n A B C 2 V
structure Way (m n:Nat) (A:Nat→Nat→Rat) (B:Nat→Rat) (T:Tab):Prop where
  inv:Inv0 m (n+m+1) T
  pos:Pos m T
  req:REq m (n+m+1) T (tab0 m n A B)
  src:Src m n A B T
section
variable {m n:Nat} {A:Nat→Nat→Rat} {B C:Nat→Rat} {T U V:Tab} {g:Nat→Rat} {bar:Nat→Prop}
theorem Way.climb {k:Nat} (h:Way m n A B T) (hk:Climb m (n+m+1) (ordP (n+m)) (alP m n bar) g k T U):Way m n A B U:=by
 obtain⟨a,b,c⟩:=hk.all h.inv h.pos
 exact⟨a,b,fun x=>(c x).trans (h.req x),hk.src h.src⟩
theorem Way.begin' {r:Nat} (h:Low m B r):Way m n A B (pivot (tab0 m n A B) r (n+m))∧HPos m (n+m) (pivot (tab0 m n A B) r (n+m)):=by
 obtain⟨a,b,c,d,e⟩:=begin_ok (n:=n) (A:=A) h.lt h.neg h.min
 exact⟨⟨a,b,d,e⟩,c⟩
theorem Way.zero(h: ∀i,i<m→0≤B i):Way m n A B (tab0 m n A B):=⟨tab0_inv,h,fun _=>Iff.rfl,tab0_src⟩
theorem alP_H: ¬alP m n bar (n+m):=fun h=>absurd h.1 (by omega)
theorem ordP_H:ordP (n+m) (n+m)=0:=if_pos rfl
theorem Ph1.way (h:Ph1 m n A B U):Way m n A B U:=by
 cases h with
 |none h=>exact Way.zero h
 |some h hk _=>exact(Way.begin' h).1.climb hk
theorem Climb.noH {k:Nat} (hk:Climb m (n+m+1) (ordP (n+m)) (alP m n bar) g k T U) (h: ¬Bas m T (n+m)): ¬Bas m U (n+m):=by
 induction hk with
 |refl T=>exact h
 | @step k T U r s hk st ih=>
  rintro ⟨i,hi,e⟩
  by_cases c:i=r
  ·have:s=n+m:=by simpa [pivot,c] using e
   have h1:=st.als.1
   omega
  ·exact ih h ⟨i,hi,by simpa [pivot,c] using e⟩
theorem Ph1.same (h:Ph1 m n A B U) (h':Ph1 m n A B V):U=V:=by
 cases h with
 |none h0=>cases h' with
  |none _=>rfl
  |some l _ _=>exact absurd (h0 _ l.lt) (Rat.not_le.2 l.neg)
 | some l hk he=>cases h' with
  |none h0=>exact absurd (h0 _ l.lt) (Rat.not_le.2 l.neg)
  |some l' hk' he'=>
   obtain rfl:=l.same l';have w:=(Way.begin' (n:=n) (A:=A) l).1
   exact Climb.last (fun _ _=>ordP_inj) w.inv w.pos hk hk' he.stop he'.stop
theorem SolP.same {a b:Nat} (h:SolP m n A B C a U) (h':SolP m n A B C b V):a=b∧U=V:=by
  have key: ∀ {T1 T2 U1 U2:Tab} {k1 k2:Nat},Ph1 m n A B T1→Ph1 m n A B T2→Climb m (n+m+1) (ordP (n+m)) (alP m n noBar) (cst n C) k1 T1 U1→Climb m (n+m+1) (ordP (n+m)) (alP m n noBar) (cst n C) k2 T2 U2→
      Stop m (n+m+1) (ordP (n+m)) (alP m n noBar) (cst n C) U1→Stop m (n+m+1) (ordP (n+m)) (alP m n noBar) (cst n C) U2→U1=U2:=by
    intro T1 T2 U1 U2 k1 k2 p1 p2 c1 c2 s1 s2
    obtain rfl:=p1.same p2
    exact Climb.last (fun _ _=>ordP_inj) p1.way.inv p1.way.pos c1 c2 s1 s2
  cases h with
  | empty p hb=>cases h' with
    |empty p' _=>exact⟨rfl,p.same p'⟩
    |ok p' hb' _ _=>obtain rfl:=p.same p';exact absurd hb hb'
    |unb p' hb' _ _=>obtain rfl:=p.same p';exact absurd hb hb'
  | ok p hb hk he=>cases h' with
    |empty p' hb'=>obtain rfl:=p.same p';exact absurd hb' hb
    |ok p' _ hk' he'=>exact⟨rfl,key p p' hk hk' he.stop he'.stop⟩
    | unb p' _ hk' he'=>
      obtain rfl:=key p p' hk hk' he.stop (he'.stop fun _ _=>ordP_inj)
      exact absurd (he _ he'.hs he'.als) (Rat.not_le.2 he'.cs)
  | unb p hb hk he=>cases h' with
    |empty p' hb'=>obtain rfl:=p.same p';exact absurd hb' hb
    | ok p' _ hk' he'=>
      obtain rfl:=key p p' hk hk' (he.stop fun _ _=>ordP_inj) he'.stop
      exact absurd (he' _ he.hs he.als) (Rat.not_le.2 he.cs)
    |unb p' _ hk' he'=>exact⟨rfl,key p p' hk hk' (he.stop fun _ _=>ordP_inj) (he'.stop fun _ _=>ordP_inj)⟩
def ydual(m n:Nat)(C:Nat→Rat)(T:Tab)(k:Nat):Rat:=S m (fun i=>cst n C (T.bas i)*T.a i (n+k))
theorem SolP.cert (h:SolP m n A B C 0 U):Cert m n A B C (bsol m U) (ydual m n C U) (S n (fun j=>C j*bsol m U j)):=by
 cases h with
 |ok p hb hk he=>
  have w:=p.way.climb hk
  have c:=cert_of w.inv w.req w.src w.pos (hk.noH hb) (fun j hj=>he j (by omega) ⟨hj,fun h=>h⟩)
  rw[c.vx]
  exact c
theorem SolP.none (h:SolP m n A B C 1 U) (x:Nat→Rat): ¬Feas m n A B x:=by
 cases h with
 | empty p hb=>
  cases p with
  |none h0=>
   obtain⟨i,hi,e⟩:=hb;have:n+i=n+m:=e
   omega
  |some l hk he=>
   obtain⟨w,hp⟩:=Way.begin' (n:=n) (A:=A) l;have w2:=w.climb hk
   exact empty_of w2.req w2.inv (hk.hpos (fun _ _=>ordP_inj) ordP_H alP_H w.inv w.pos hp) hb (fun j hj hjl=>he j hj ⟨hjl,fun h=>h⟩) x
theorem SolP.unbd (h:SolP m n A B C 2 U): ∃x d,Unb m n A B C x d:=by
 cases h with
 |unb p hb hk he=>
  have w:=p.way.climb hk
  exact⟨_,_,unb_of w.inv w.req w.pos (hk.noH hb) he.als.1 he.cs he.no⟩
theorem SolP.out {a:Nat} (h:SolP m n A B C a U):Out m n A B C a:=by
 have h0:=h
 cases h with
 |empty _ _=>exact .empty h0.none
 |ok _ _ _ _=>exact .ok h0.cert
 |unb _ _ _ _=>obtain⟨x,d,hu⟩:=h0.unbd;exact .unb hu
theorem Way.bnd {D H:Nat} (h:Way m n A B T) (h0:Bnd m (n+m+1) D H (tab0 m n A B)): ∃E,Bnd m (n+m+1) E (grow m H) T:=
 reach h.inv m (tab0 m n A B) tab0_inv (fun x=>(h.req x).symm) (miss_le m) h0
theorem tab0_bnd {D H:Nat} (hD:0<D) (hH:D≤H) (ha: ∀i j,i<m→j<n→Q D H (A i j)) (hb: ∀i,i<m→Q D H (B i)):Bnd m (n+m+1) D H (tab0 m n A B):=by
 refine⟨hD,hH,fun i j hi hj=>?_,hb⟩
 show Q D H (mat m n A i j)
 unfold mat
 have one:Q D H 1:=⟨D,by rw[Rat.one_mul],by simpa using hH⟩
 split
 ·next h=>exact ha i j hi h
 ·split
  ·exact one.neg
  ·split
   ·exact one
   ·exact Q.zero _ _
end
structure Best (ord:Nat→Nat) (T:Tab) (s t r:Nat):Prop where
  lt:r<t
  pos:0<T.a r s
  ratio: ∀i,i<t→0<T.a i s→T.b r*T.a i s≤T.b i*T.a r s
  tie: ∀i,i<t→0<T.a i s→T.b r*T.a i s=T.b i*T.a r s→ord (T.bas r)≤ord (T.bas i)
section
variable {ord:Nat→Nat} {T:Tab} {s t r:Nat}
theorem cross {a b c d:Rat} (hb:0<b) (hd:0<d):(a/b<c/d↔a*d<c*b)∧(a/b=c/d↔a*d=c*b):=by
 have e1:a/b*(b*d)=a*d:=by rw[←Rat.mul_assoc,Rat.div_mul_cancel (Rat.ne_of_gt hb)]
 have e2:c/d*(b*d)=c*b:=by rw[Rat.mul_comm b d,←Rat.mul_assoc,Rat.div_mul_cancel (Rat.ne_of_gt hd)]
 have hp:0<b*d:=Rat.mul_pos hb hd
 constructor
 ·constructor
  ·intro h
   have:=Rat.mul_lt_mul_of_pos_right h hp
   rwa [e1,e2] at this
  ·intro h
   rw[←e1,←e2] at h
   exact Rat.not_le.1 fun hle=>Rat.not_lt.2 (Rat.mul_le_mul_of_nonneg_right hle (Rat.le_of_lt hp)) h
 ·constructor
  ·intro h;rw[←e1,←e2,h]
  ·intro h
   rw[←e1,←e2] at h;have hz:b*d≠0:=Rat.ne_of_gt hp
   have can: ∀x y z:Rat,z≠0→x*z=y*z→x=y:=by
    intro x y z hz e
    have:x*z*z⁻¹=y*z*z⁻¹:=by rw[e]
    rwa [Rat.mul_assoc,Rat.mul_assoc,Rat.mul_inv_cancel _ hz,Rat.mul_one,Rat.mul_one] at this
   exact can _ _ _ hz h
def NoBest(T:Tab)(s t:Nat):Prop:= ∀i,i<t→T.a i s≤0
theorem NoBest.skip (h:NoBest T s t) (hn:T.a t s≤0):NoBest T s (t+1):=fun i hi=>by
 rcases Nat.lt_or_ge i t with hl|hl
 ·exact h i hl
 ·have:i=t:=by omega
  subst this;exact hn
theorem NoBest.take (h:NoBest T s t) (hp:0<T.a t s):Best ord T s (t+1) t:=by
 refine⟨by omega,hp,fun i hi hpi=>?_,fun i hi hpi _=>?_⟩<;>
 ·rcases Nat.lt_or_ge i t with hl|hl
  ·exact absurd hpi (Rat.not_lt.2 (h i hl))
  ·have:i=t:=by omega
   subst this
   first|exact Rat.le_refl|exact Nat.le_refl _
theorem Best.skip (h:Best ord T s t r) (hn:T.a t s≤0):Best ord T s (t+1) r:=by
 refine⟨by have:=h.lt;omega,h.pos,fun i hi hpi=>?_,fun i hi hpi he=>?_⟩<;>
 ·rcases Nat.lt_or_ge i t with hl|hl
  ·first|exact h.ratio i hl hpi|exact h.tie i hl hpi he
  ·have:i=t:=by omega
   subst this;exact absurd hpi (Rat.not_lt.2 hn)
theorem Best.swap (h:Best ord T s t r) (hp:0<T.a t s) (hb:T.b t/T.a t s<T.b r/T.a r s∨T.b t/T.a t s=T.b r/T.a r s∧ord (T.bas t)≤ord (T.bas r)):Best ord T s (t+1) t:=by
 have hc:=cross (a:=T.b t) (c:=T.b r) hp h.pos
 have hle:T.b t*T.a r s≤T.b r*T.a t s:=by
  rcases hb with h1|⟨h1,_⟩
  ·exact Rat.le_of_lt (hc.1.1 h1)
  ·rw[hc.2.1 h1];exact Rat.le_refl
 have tr: ∀i,i<t→0<T.a i s→T.b t*T.a i s≤T.b i*T.a t s∧(T.b t*T.a i s=T.b i*T.a t s→T.b t*T.a r s=T.b r*T.a t s∧T.b r*T.a i s=T.b i*T.a r s):=by
  intro i hl hpi
  have h2:=h.ratio i hl hpi;have a1:T.b t*T.a r s*T.a i s≤T.b r*T.a t s*T.a i s:=Rat.mul_le_mul_of_nonneg_right hle (Rat.le_of_lt hpi);have a2:T.b r*T.a i s*T.a t s≤T.b i*T.a r s*T.a t s:=Rat.mul_le_mul_of_nonneg_right h2 (Rat.le_of_lt hp)
  have a3:T.b t*T.a i s*T.a r s≤T.b i*T.a t s*T.a r s:=by grind
  refine⟨Rat.le_of_mul_le_mul_right a3 h.pos,fun he=>?_⟩
  have b1:T.b t*T.a r s*T.a i s=T.b r*T.a t s*T.a i s:=by
   apply Rat.le_antisymm a1
   have:T.b t*T.a i s*T.a r s=T.b i*T.a t s*T.a r s:=by rw[he]
   grind
  have b2:T.b r*T.a i s*T.a t s=T.b i*T.a r s*T.a t s:=by
   have:T.b t*T.a i s*T.a r s=T.b i*T.a t s*T.a r s:=by rw[he]
   grind
  have hi0:T.a i s≠0:=Rat.ne_of_gt hpi;have ht0:T.a t s≠0:=Rat.ne_of_gt hp
  have can: ∀ {x y z:Rat},z≠0→x*z=y*z→x=y:=by
   intro x y z hz e
   have:x*z*z⁻¹=y*z*z⁻¹:=by rw[e]
   rwa [Rat.mul_assoc,Rat.mul_assoc,Rat.mul_inv_cancel _ hz,Rat.mul_one,Rat.mul_one] at this
  exact⟨can hi0 b1,can ht0 b2⟩
 refine⟨by omega,hp,fun i hi hpi=>?_,fun i hi hpi he=>?_⟩
 ·rcases Nat.lt_or_ge i t with hl|hl
  ·exact(tr i hl hpi).1
  ·have:i=t:=by omega
   subst this;exact Rat.le_refl
 ·rcases Nat.lt_or_ge i t with hl|hl
  ·obtain⟨e1,e2⟩:=(tr i hl hpi).2 he
   have h3:=h.tie i hl hpi e2
   rcases hb with h1|⟨_,h1⟩
   ·exact absurd e1 (Rat.ne_of_lt (hc.1.1 h1))
   ·omega
  ·have:i=t:=by omega
   subst this;exact Nat.le_refl _
theorem Best.keep (h:Best ord T s t r) (hp:0<T.a t s) (hb:T.b r/T.a r s<T.b t/T.a t s∨T.b t/T.a t s=T.b r/T.a r s∧ord (T.bas r)≤ord (T.bas t)):Best ord T s (t+1) r:=by
 have hc:=cross (a:=T.b r) (c:=T.b t) h.pos hp
 refine⟨by have:=h.lt;omega,h.pos,fun i hi hpi=>?_,fun i hi hpi he=>?_⟩
 ·rcases Nat.lt_or_ge i t with hl|hl
  ·exact h.ratio i hl hpi
  ·have:i=t:=by omega
   subst this
   rcases hb with h1|⟨h1,_⟩
   ·exact Rat.le_of_lt (hc.1.1 h1)
   ·rw[hc.2.1 h1.symm];exact Rat.le_refl
 ·rcases Nat.lt_or_ge i t with hl|hl
  ·exact h.tie i hl hpi he
  ·have:i=t:=by omega
   subst this
   rcases hb with h1|⟨_,h1⟩
   ·exact absurd he (Rat.ne_of_lt (hc.1.1 h1))
   ·exact h1
end
end Lp
namespace Lp
section
variable {m n:Nat} {A:Nat→Nat→Rat} {B C:Nat→Rat} {T U V:Tab} {g:Nat→Rat} {ord:Nat→Nat} {al:Nat→Prop}
theorem SolP.way (h:SolP m n A B C 0 U):Way m n A B U∧¬Bas m U (n+m):=by
 cases h with
 |ok p hb hk _=>exact⟨p.way.climb hk,hk.noH hb⟩
end
end Lp
namespace Lp
theorem grow_lt: ∀(k H s:Nat),H<2^s→grow k H<2^(2^k*(s+1))
 |0,H,s,h=>by
  show H<_
  have:2^s≤2^(2^0*(s+1)):=Nat.pow_le_pow_right (by decide) (by omega)
  omega
 | k+1,H,s,h=>by
  have h1:2*H*H<2^(2*s+1):=by
   have e:2^(2*s+1)=2*(2^s*2^s):=by rw[Nat.pow_succ,show 2*s=s+s by omega,Nat.pow_add];omega
   rw[e,Nat.mul_assoc];have:H*H<2^s*2^s:=Nat.mul_lt_mul'' h h
   omega
  have h2:=grow_lt k _ _ h1
  have e:2^(k+1)*(s+1)=2^k*(2*s+1+1):=by rw[Nat.pow_succ,Nat.mul_assoc,show 2*(s+1)=2*s+1+1 by omega]
  rw[e];exact h2
theorem Q_dot {D E H G:Nat} {n:Nat} {f g:Nat→Rat} (hf: ∀k,k<n→Q D H (f k)) (hg: ∀k,k<n→Q E G (g k)) (t:Nat) (ht:t≤n):Q (D*E) (n*(H*G)) (S t (fun k=>f k*g k)):=
 (Q.S fun k hk=>(hf k (by omega)).mul (hg k (by omega))).mono (Nat.mul_le_mul_right _ ht)
section
variable {m n:Nat} {A:Nat→Nat→Rat} {B C:Nat→Rat} {T:Tab} {g:Nat→Rat}
theorem price_Q {D H E G:Nat} (hb:Bnd m (n+m+1) D H T) (hg: ∀j,j<n+m+1→Q E G (g j)) (hI:Inv0 m (n+m+1) T) {k:Nat} (hk:k<m):Q (E*D) (m*(G*H)) (S m (fun i=>g (T.bas i)*T.a i (n+k))):=
 Q_dot (fun i hi=>hg _ (hI.bas i hi)) (fun i hi=>hb.a i (n+k) hi (by omega)) m (Nat.le_refl _)
theorem cost_eq (hS:Src m n A B T) (j:Nat):S m (fun k=>S m (fun i=>g (T.bas i)*T.a i (n+k))*mat m n A k j)=S m (fun i=>g (T.bas i)*T.a i j):=by
 have e1:S m (fun k=>S m (fun i=>g (T.bas i)*T.a i (n+k))*mat m n A k j)=S m (fun k=>S m (fun i=>g (T.bas i)*(T.a i (n+k)*mat m n A k j))):=by
  refine S_congr fun k _=>?_
  rw[←S_mulr]
  exact S_congr fun i _=>by grind
 rw[e1,S_swap]
 refine S_congr fun i hi=>?_
 rw[S_mul,hS.a i j hi]
theorem cost_basic (hI:Inv0 m (n+m+1) T) {j:Nat} (hj:Bas m T j):(wc m T g).c j=0:=by
 obtain⟨i,hi,e⟩:=hj;rw[←e];exact(wc_inv hI g).cost i hi
end
end Lp
namespace Lp
section
variable {m n k:Nat} {A A':Nat→Nat→Rat} {B B' C C' x y d:Nat→Rat} {v f:Rat}
def swp(a b j:Nat):Nat:=if j=a then b else if j=b then a else j
theorem swp_lt{a b j:Nat}(ha:a<n)(hb:b<n)(hj:j<n):swp a b j<n:=by unfold swp;split;omega;split<;>omega
theorem swp_swp(a b j:Nat):swp a b (swp a b j)=j:=by unfold swp;split<;>split<;>(try split)<;>omega
theorem S_swp {a b:Nat} (ha:a<n) (hb:b<n) (F:Nat→Rat):S n (fun j=>F (swp a b j))=S n F:=by
 by_cases e:a=b
 ·subst e
  exact S_congr fun j _=>by
   have:swp a a j=j:=by unfold swp;split<;>(try split)<;>omega
   rw[this]
 ·rw [S_split (k:=a) ha,S_split (f:=F) (k:=b) hb]
  have e1:swp a b a=b:=if_pos rfl
  have e2:S n (fun j=>if j=a then 0 else F (swp a b j))=F a+S n (fun j=>if j=a then 0 else if j=b then 0 else F j):=by
   rw[S_split (k:=b) hb,if_neg (Ne.symm e)]
   have:swp a b b=a:=by unfold swp;rw[if_neg (Ne.symm e),if_pos rfl]
   rw[this]
   congr 1
   exact S_congr fun j _=>by
    by_cases h1:j=b
    ·rw[if_pos h1];split<;>first|rfl|(rw[if_pos h1])
    ·rw[if_neg h1]
     by_cases h2:j=a
     ·rw[if_pos h2,if_pos h2]
     ·rw[if_neg h2,if_neg h2,if_neg h1]
      have:swp a b j=j:=by unfold swp;rw[if_neg h2,if_neg h1]
      rw[this]
  have e3:S n (fun j=>if j=b then 0 else F j)=F a+S n (fun j=>if j=a then 0 else if j=b then 0 else F j):=by
   rw[S_split (k:=a) ha,if_neg e]
  rw[e1,e2,e3]
theorem feas_rows {a b:Nat} (ha:a<m) (hb:b<m):Feas m n (fun i=>A (swp a b i)) (fun i=>B (swp a b i)) x↔Feas m n A B x:=by
 constructor
 ·rintro ⟨h1,h2⟩
  refine⟨h1,fun i hi=>?_⟩
  have:=h2 (swp a b i) (swp_lt ha hb hi)
  simp only[swp_swp] at this
  exact this
 ·rintro ⟨h1,h2⟩
  exact⟨h1,fun i hi=>h2 _ (swp_lt ha hb hi)⟩
theorem cert_rows {a b:Nat} (ha:a<m) (hb:b<m) (h:Cert m n A B C x y v):Cert m n (fun i=>A (swp a b i)) (fun i=>B (swp a b i)) C x (fun i=>y (swp a b i)) v:=by
 refine⟨(feas_rows ha hb).2 h.px,⟨fun i hi=>h.py.1 _ (swp_lt ha hb hi),fun j hj=>?_⟩,h.vx,?_⟩
 ·rw[S_swp ha hb (fun i=>A i j*y i)];exact h.py.2 j hj
 ·rw[S_swp ha hb (fun i=>B i*y i)];exact h.vy
theorem out_rows {a b:Nat} (ha:a<m) (hb:b<m) (h:Out m n A B C k):Out m n (fun i=>A (swp a b i)) (fun i=>B (swp a b i)) C k:=by
 cases h with
 |ok h=>exact .ok (cert_rows ha hb h)
 |empty h=>exact .empty fun x hx=>h x ((feas_rows ha hb).1 hx)
 |unb h=>exact .unb ⟨(feas_rows ha hb).2 h.px,h.dpos,fun i hi=>h.drow _ (swp_lt ha hb hi),h.dval⟩
end
end Lp
namespace Lp
section
variable {m n N k:Nat} {A:Nat→Nat→Rat} {B C g:Nat→Rat} {T U:Tab}
theorem no_free {H:Nat} {ord:Nat→Nat} {al:Nat→Prop} {s:Nat} (hI:Inv0 m N T) (h:Free m N ord al (hc H) T s):False:=by
 obtain⟨i,hi,_,hp⟩:=hc_limit hI h.cs
 exact absurd (h.no i hi) (Rat.not_le.2 hp)
theorem hcv_val(hI:Inv0 m N T){H i:Nat}(hi:i<m)(e:T.bas i=H):(wc m T (hc H)).v= -T.b i:=hc_sum hI hi e T.b
theorem hcv_val0{H:Nat}(h: ¬Bas m T H):(wc m T (hc H)).v=0:=hc_sum0 h T.b
theorem Way.drive (h:Way m n A B T) {i c:Nat} (hi:i<m) (hb:T.bas i=n+m) (h0:T.b i=0) (hc:c<n+m) (hp:T.a i c≠0):Way m n A B (pivot T i c)∧(∀q,q<m→(pivot T i c).b q=T.b q)∧¬Bas m (pivot T i c) (n+m):=by
 have hn: ¬Bas m T c:=by
  rintro ⟨q,hq,e⟩;have hu:=h.inv.unit i q hi hq;rw[e] at hu
  by_cases e2:i=q
  ·subst e2;omega
  ·rw[if_neg e2] at hu;exact hp hu
 have hbq: ∀q,q<m→(pivot T i c).b q=T.b q:=fun q _=>by
  show(if q=i then T.b i/T.a i c else T.b q-T.a q c*(T.b i/T.a i c))=T.b q
  rw[h0,zero_div]
  split
  ·next e=>subst e;exact h0.symm
  ·rw[Rat.mul_zero];grind
 refine⟨⟨pivot_inv0 h.inv hi (by omega) hp hn,fun q hq=>by rw[hbq q hq];exact h.pos q hq,fun x=>(pivot_rows hi hp x).trans (h.req x),h.src.pivot hi⟩,hbq,?_⟩
 rintro ⟨q,hq,e⟩;have e:(if q=i then c else T.bas q)=n+m:=e
 by_cases e2:q=i
 ·rw[if_pos e2] at e;omega
 ·rw[if_neg e2] at e
  exact e2 (h.inv.inj hq hi (e.trans hb.symm))
theorem Way.col (h:Way m n A B T) {i:Nat} (hi:i<m) (hb:T.bas i=n+m): ∃c,c<n+m∧T.a i c≠0:=by
 apply Classical.byContradiction
 intro hno
 have hz: ∀c,c<n+m→T.a i c=0:=fun c hc=>Classical.byContradiction fun e=>hno ⟨c,hc,e⟩;have h1:=h.src.a i (n+m) hi
 rw[S_eq0 fun k hk=>by rw[hz (n+k) (by omega),Rat.zero_mul]] at h1
 have h2:=h.inv.unit i i hi hi;rw[hb,if_pos rfl] at h2;rw[h2] at h1
 exact absurd h1 (by decide)
theorem hcv_zero (hI:Inv0 m N T) {H i:Nat} (hv:(wc m T (hc H)).v=0) (hi:i<m) (e:T.bas i=H):T.b i=0:=by
 rw[hcv_val hI hi e] at hv
 grind
theorem hcv_empty (h:Way m n A B T) (he:End m (n+m+1) (· <n+m+1) (hc (n+m)) T) (hv:(wc m T (hc (n+m))).v≠0) (x:Nat→Rat): ¬Feas m n A B x:=by
 have hb:Bas m T (n+m):=Classical.byContradiction fun hb=>hv (hcv_val0 hb)
 refine empty_of h.req h.inv (fun i hi e=>?_) hb (fun j hj _=>he j hj hj) x
 rw[hcv_val h.inv hi e] at hv;have:=h.pos i hi
 grind
theorem Way.climbId {k:Nat} {al:Nat→Prop} (h:Way m n A B T) (hk:Climb m (n+m+1) id al g k T U):Way m n A B U:=by
 obtain⟨a,b,c⟩:=hk.all h.inv h.pos
 exact⟨a,b,fun x=>(c x).trans (h.req x),hk.src h.src⟩
theorem Climb.noHid {k:Nat} (hk:Climb m (n+m+1) id (· <n+m) g k T U) (h: ¬Bas m T (n+m)): ¬Bas m U (n+m):=by
 induction hk with
 |refl=>exact h
 |step hk st ih=>
  rintro ⟨q,hq,e⟩;have e:(if q=_ then _ else _)=n+m:=e
  split at e
  ·have:=st.als;omega
  ·exact ih h ⟨q,hq,e⟩
end
end Lp
namespace Lp
section
variable {m n N:Nat} {A:Nat→Nat→Rat} {B C:Nat→Rat} {T U:Tab} {g:Nat→Rat} {bar:Nat→Prop} {v:Rat} {z z' x:Nat→Rat} {k:Nat}
structure Face (m n:Nat) (A:Nat→Nat→Rat) (B C:Nat→Rat) (v:Rat) (z:Nat→Rat) (k:Nat) (x:Nat→Rat):Prop where
  feas:Feas m n A B x
  val:S n (fun j=>C j*x j)=v
  first: ∀j,j<k→x j=z j
structure Lex (m n:Nat) (A:Nat→Nat→Rat) (B C:Nat→Rat) (v:Rat) (z:Nat→Rat):Prop where
  feas:Feas m n A B z
  val:S n (fun j=>C j*z j)=v
  least: ∀k,k<n→∀x,Face m n A B C v z k x→z k≤x k
theorem Lex.face(h:Lex m n A B C v z)(k:Nat):Face m n A B C v z k z:=⟨h.feas,h.val,fun _ _=>rfl⟩
theorem Lex.same (h:Lex m n A B C v z) (h':Lex m n A B C v z'): ∀k,k≤n→∀j,j<k→z j=z' j:=by
 intro k
 induction k with
 |zero=>intro _ j hj;omega
 | succ k ih=>
  intro hk j hj
  have h0:=ih (by omega)
  rcases Nat.lt_or_ge j k with hl|hl
  ·exact h0 j hl
  ·obtain rfl:j=k:=by omega
   exact Rat.le_antisymm (h.least j (by omega) z' ⟨h'.feas,h'.val,fun i hi=>(h0 i hi).symm⟩) (h'.least j (by omega) z ⟨h.feas,h.val,fun i hi=>h0 i hi⟩)
theorem bsol_val(h:Inv0 m N T)(g:Nat→Rat):S N (fun j=>g j*bsol m T j)=(wc m T g).v:=sum_bsol (wc_inv h (fun _=>0)) g
theorem face_step (he: ∀j,j<n+m→¬bar j→(wc m U g).c j≤0) {X:Nat→Rat} (hX:Rows m (n+m+1) U X) (hp: ∀j,j<n+m→0≤X j) (h0:X (n+m)=0) (hb: ∀j,j<n+m→bar j→X j=0):
  S (n+m+1) (fun j=>g j*X j)≤(wc m U g).v∧(S (n+m+1) (fun j=>g j*X j)=(wc m U g).v↔∀j,j<n+m→¬bar j→(wc m U g).c j<0→X j=0):=by
 have h1:=((wc_sol g X _).2 ⟨hX,rfl⟩).2
 have h2:S (n+m+1) (fun j=>(wc m U g).c j*X j)=S (n+m) (fun j=>(wc m U g).c j*X j):=by rw[S_succ,h0,Rat.mul_zero,Rat.add_zero]
 rw[h2] at h1
 have ht: ∀j,j<n+m→(wc m U g).c j*X j≤0:=fun j hj=>by
  by_cases hbj:bar j
  ·rw[hb j hj hbj,Rat.mul_zero];exact Rat.le_refl
  ·have:=Rat.mul_le_mul_of_nonneg_right (he j hj hbj) (hp j hj)
   rwa [Rat.zero_mul] at this
 have hs:S (n+m) (fun j=>(wc m U g).c j*X j)≤0:=by
  have:=S_le (n:=n+m) (g:=fun _=>0) ht
  rwa [S_eq0 (f:=fun _=>0) fun _ _=>rfl] at this
 refine⟨by rw[h1];grind,?_,?_⟩
 ·intro e j hj hbj hc
  have hz:S (n+m) (fun j=>(wc m U g).c j*X j)=0:=by grind
  apply Classical.byContradiction
  intro hne
  have hpos:0<X j:=Rat.lt_of_le_of_ne (hp j hj) (Ne.symm hne)
  have hneg:(wc m U g).c j*X j<0:=by
   have:=Rat.mul_pos (show(0:Rat)< -(wc m U g).c j by grind) hpos
   grind
  rw[S_split (k:=j) hj] at hz
  have hr:S (n+m) (fun i=>if i=j then 0 else(wc m U g).c i*X i)≤0:=by
   have:=S_le (n:=n+m) (f:=fun i=>if i=j then 0 else(wc m U g).c i*X i) (g:=fun _=>0) (fun i hi=>by
    show(if i=j then 0 else(wc m U g).c i*X i)≤0
    split
    ·exact Rat.le_refl
    ·exact ht i hi)
   rwa [S_eq0 (f:=fun _=>0) fun _ _=>rfl] at this
  grind
 ·intro h
  have hz:S (n+m) (fun j=>(wc m U g).c j*X j)=0:=S_eq0 fun j hj=>by
   by_cases hbj:bar j
   ·rw[hb j hj hbj,Rat.mul_zero]
   ·rcases Classical.em ((wc m U g).c j<0) with hc|hc
    ·rw[h j hj hbj hc,Rat.mul_zero]
    ·have:(wc m U g).c j=0:=Rat.le_antisymm (he j hj hbj) (Rat.not_lt.1 hc)
     rw[this,Rat.zero_mul]
  rw[h1,hz,Rat.add_zero]
def barN(m n:Nat)(U:Tab)(g:Nat→Rat)(bar:Nat→Prop)(j:Nat):Prop:=bar j∨(j<n+m∧¬Bas m U j∧¬bar j∧(wc m U g).c j<0)
structure LexS (m n:Nat) (A:Nat→Nat→Rat) (B C:Nat→Rat) (v:Rat) (k:Nat) (T:Tab) (bar:Nat→Prop):Prop where
  way:Way m n A B T
  noH: ¬Bas m T (n+m)
  nb: ∀j,bar j→¬Bas m T j
  face: ∀x,Feas m n A B x→((S n (fun j=>C j*x j)=v∧∀j,j<k→x j=bsol m T j)↔∀j,j<n+m→bar j→ext m n A B x j=0)
  least: ∀k',k'<k→∀x,Face m n A B C v (bsol m T) k' x→bsol m T k'≤x k'
theorem way_feas(w:Way m n A B T)(hh: ¬Bas m T (n+m)):Feas m n A B (bsol m T):=feas_of ((w.req _).1 (bsol_rows w.inv)) (bsol_oth hh) fun j _=>bsol_nonneg w.pos j
theorem ext_of {X:Nat→Rat} (hX:Rows m (n+m+1) (tab0 m n A B) X) (h0:X (n+m)=0) {j:Nat} (hj:j<n+m):ext m n A B X j=X j:=by
 unfold ext
 split
 ·rfl
 ·have h1:S (n+m+1) (fun q=>mat m n A (j-n) q*X q)=B (j-n):=hX (j-n) (by omega)
  rw[mat_sum _ (show j-n<m by omega),h0,show n+(j-n)=j by omega] at h1
  grind
theorem LexS.mem (h:LexS m n A B C v k T bar):S n (fun j=>C j*bsol m T j)=v:=by
 refine((h.face _ (way_feas h.way h.noH)).2 fun j hj hb=>?_).1
 rw[ext_of ((h.way.req _).1 (bsol_rows h.way.inv)) (bsol_oth h.noH) hj]
 exact bsol_oth (h.nb j hb)
theorem LexS.start (w:Way m n A B U) (hh: ¬Bas m U (n+m)) (he: ∀j,j<n+m→(wc m U (cst n C)).c j≤0):LexS m n A B C (S n (fun j=>C j*bsol m U j)) 0 U (barN m n U (cst n C) noBar):=by
 refine⟨w,hh,fun j hb=>?_,fun x hx=>?_,fun k' hk'=>by omega⟩
 ·rcases hb with hb|hb
  ·exact hb.elim
  ·exact hb.2.1
 ·have hX:=(w.req _).2 (ext_rows (m:=m) (n:=n) (A:=A) (B:=B) x)
  have hx0:ext m n A B x (n+m)=0:=by unfold ext;rw[if_neg (by omega),if_neg (by omega)]
  have h1:=(face_step (g:=cst n C) (bar:=noBar) (fun j hj _=>he j hj) hX (fun j _=>ext_nonneg hx j) hx0 (fun j _ h=>h.elim)).2
  have e1:S (n+m+1) (fun j=>cst n C j*ext m n A B x j)=S n (fun j=>C j*x j):=by
   rw[cst_sum]
   exact S_congr fun j hj=>by unfold ext;rw[if_pos hj]
  have e2:(wc m U (cst n C)).v=S n (fun j=>C j*bsol m U j):=by rw[←bsol_val w.inv,cst_sum]
  rw[e1,e2] at h1
  constructor
  ·rintro ⟨h2,_⟩ j hj hb
   rcases hb with hb|hb
   ·exact hb.elim
   ·exact h1.1 h2 j hj hb.2.2.1 hb.2.2.2
  ·intro h2
   refine⟨h1.2 fun j hj hb hc=>h2 j hj (.inr ⟨hj,fun hbas=>?_,hb,hc⟩),fun j hj=>by omega⟩
   rw[cost_basic w.inv hbas] at hc
   exact Rat.lt_irrefl hc
theorem hc_val' (hk:k<n+m+1) (X:Nat→Rat):S (n+m+1) (fun j=>hc k j*X j)= -X k:=by
 rw[S_single (k:=k) hk]
 ·unfold hc;rw[if_pos rfl];grind
 ·intro j _ hne;unfold hc;rw[if_neg hne,Rat.zero_mul]
theorem LexS.next {c:Nat} (h:LexS m n A B C v k T bar) (hk:k<n) (hcl:Climb m (n+m+1) (ordP (n+m)) (alP m n bar) (hc k) c T U) (he:End m (n+m+1) (alP m n bar) (hc k) U):LexS m n A B C v (k+1) U (barN m n U (hc k) bar):=by
 have w:=h.way.climb hcl;have hh:=hcl.noH h.noH
 have nbU: ∀j,bar j→¬Bas m U j:=by
  clear he w hh
  intro j hb
  have:=h.nb j hb;clear h
  induction hcl with
  |refl T=>exact this
  | @step k' T U r s hk' st ih=>
   rintro ⟨i,hi,e⟩
   by_cases c:i=r
   ·have:s=j:=by simpa [Lp.pivot,c] using e
    subst this
    exact st.als.2 hb
   ·exact ih this ⟨i,hi,by simpa [Lp.pivot,c] using e⟩
 have fU:=way_feas w hh;have rU:=(w.req _).1 (bsol_rows w.inv)
 have mU:=(h.face _ fU).2 fun j hj hb=>by
  rw[ext_of rU (bsol_oth hh) hj]
  exact bsol_oth (nbU j hb)
 have key: ∀x,Feas m n A B x→(∀j,j<n+m→bar j→ext m n A B x j=0)→bsol m U k≤x k∧(x k=bsol m U k↔∀j,j<n+m→¬bar j→(wc m U (hc k)).c j<0→ext m n A B x j=0):=by
  intro x hx hz
  have hX:=(w.req _).2 (ext_rows (m:=m) (n:=n) (A:=A) (B:=B) x)
  have hx0:ext m n A B x (n+m)=0:=by unfold ext;rw[if_neg (by omega),if_neg (by omega)]
  have h1:=face_step (g:=hc k) (bar:=bar) (fun j hj hb=>he j (by omega) ⟨hj,hb⟩) hX (fun j _=>ext_nonneg hx j) hx0 hz
  rw[hc_val' (by omega),←bsol_val w.inv,hc_val' (by omega),show ext m n A B x k=x k by unfold ext;rw[if_pos hk]] at h1
  obtain⟨a,b⟩:=h1
  refine⟨by grind,?_⟩
  rw[←b]
  constructor<;>intro e<;>grind
 refine⟨w,hh,fun j hb=>?_,fun x hx=>?_,fun k' hk' x hx=>?_⟩
 ·rcases hb with hb|hb
  ·exact nbU j hb
  ·exact hb.2.1
 ·constructor
  ·rintro ⟨h1,h2⟩ j hj hb
   have h3:=(h.face x hx).1 ⟨h1,fun i hi=>by rw[h2 i (by omega),mU.2 i hi]⟩
   rcases hb with hb|hb
   ·exact h3 j hj hb
   ·exact((key x hx h3).2.1 (h2 k (by omega))) j hj hb.2.2.1 hb.2.2.2
  ·intro h1
   have h3: ∀j,j<n+m→bar j→ext m n A B x j=0:=fun j hj hb=>h1 j hj (.inl hb);obtain⟨a,b⟩:=(h.face x hx).2 h3
   refine⟨a,fun j hj=>?_⟩
   rcases Nat.lt_or_ge j k with hl|hl
   ·rw[b j hl,mU.2 j hl]
   ·obtain rfl:j=k:=by omega
    refine(key x hx h3).2.2 fun i hi hb hc=>h1 i hi (.inr ⟨hi,fun hbas=>?_,hb,hc⟩)
    rw[cost_basic w.inv hbas] at hc
    exact Rat.lt_irrefl hc
 ·rcases Nat.lt_or_ge k' k with hl|hl
  ·rw[mU.2 k' hl]
   exact h.least k' hl x ⟨hx.feas,hx.val,fun j hj=>by rw[hx.first j hj,mU.2 j (by omega)]⟩
  ·obtain rfl:k'=k:=by omega
   refine(key x hx.feas ?_).1
   exact(h.face x hx.feas).1 ⟨hx.val,fun j hj=>by rw[hx.first j hj,mU.2 j hj]⟩
theorem LexS.done(h:LexS m n A B C v n T bar):Lex m n A B C v (bsol m T):=⟨way_feas h.way h.noH,h.mem,h.least⟩
theorem lex_no_free {s:Nat} (w:Way m n A B U) (hk:k<n) (hf:Free m (n+m+1) (ordP (n+m)) (alP m n bar) (hc k) U s):False:=by
 have hI:=wc_inv w.inv (hc k);have hs:=hf.als.1
 have hns: ¬Bas m U s:=fun hb=>by
  have:=hf.cs;rw[cost_basic w.inv hb] at this
  exact Rat.lt_irrefl this
 obtain⟨y,hy0,hy⟩: ∃y:Rat,0≤y∧0<(wc m U (hc k)).v+(wc m U (hc k)).c s*y:=by
  refine⟨(1-(wc m U (hc k)).v)/(wc m U (hc k)).c s,?_,?_⟩
  ·refine div_nonneg ?_ hf.cs
   have:(wc m U (hc k)).v= -bsol m U k:=by rw[←bsol_val w.inv,hc_val' (by omega)]
   have:=bsol_nonneg w.pos k
   grind
  ·rw[div_mul_cancel' (Rat.ne_of_gt hf.cs)]
   grind
 have h1:=(wc_sol (hc k) _ _).1 (ray_sol hI (show s<n+m+1 by omega) y)
 have h2:=h1.2
 rw[hc_val' (by omega)] at h2
 have h3:0≤ray m (wc m U (hc k)) s y k:=by
  by_cases hb:Bas m U k
  ·obtain⟨i,hi,e⟩:=hb
   have:ray m (wc m U (hc k)) s y k=U.b i-U.a i s*y:=by rw[←e];exact ray_bas hI hns y hi
   rw[this];have h4:=Rat.mul_le_mul_of_nonneg_right (hf.no i hi) hy0;rw[Rat.zero_mul] at h4;have:=w.pos i hi
   grind
  ·rw[ray_oth y (show ¬Bas m (wc m U (hc k)) k from hb)]
   split
   ·exact hy0
   ·exact Rat.le_refl
 grind
end
end Lp
namespace Lp
section
open Classical
noncomputable def cnt (p:Nat→Prop):Nat→Nat
  |0=>0
  |i+1=>cnt p i+if p i then 1 else 0
theorem cnt_zero {p:Nat→Prop} {k:Nat} (h: ∀i,i<k→¬p i):cnt p k=0:=by
 induction k with
 |zero=>rfl
 |succ k ih=>unfold cnt;rw[ih fun i hi=>h i (by omega),if_neg (h k (by omega))]
theorem cnt_one {p:Nat→Prop} {k:Nat} (h: ∀i j,i<k→j<k→p i→p j→i=j):cnt p k≤1:=by
 induction k with
 |zero=>exact Nat.zero_le _
 |succ k ih=>
  unfold cnt
  by_cases c:p k
  ·rw[if_pos c,cnt_zero fun i hi hp=>by have:=h i k (by omega) (by omega) hp c;omega];omega
  ·rw[if_neg c];exact ih fun i j hi hj=>h i j (by omega) (by omega)
theorem cnt_or {p q:Nat→Prop} (k:Nat):cnt (fun i=>p i∨q i) k≤cnt p k+cnt q k:=by
 induction k with
 |zero=>exact Nat.le_refl _
 |succ k ih=>
  unfold cnt
  by_cases a:p k<;>by_cases b:q k<;>simp only[a,b,if_true,if_false,or_true,or_false]<;>omega
theorem cnt_imp {p q:Nat→Prop} {k:Nat} (h: ∀i,i<k→p i→q i):cnt p k≤cnt q k:=by
 induction k with
 |zero=>exact Nat.le_refl _
 |succ k ih=>
  have h1:=ih fun i hi=>h i (by omega)
  unfold cnt
  by_cases a:p k
  ·rw[if_pos a,if_pos (h k (by omega) a)];omega
  ·rw[if_neg a];omega
theorem cnt_lt {f:Nat→Nat} {k:Nat} (hf: ∀i j,i<k→j<k→f i=f j→i=j) (a:Nat):cnt (fun i=>f i<a) k≤a:=by
 induction a with
 |zero=>rw[cnt_zero fun i _=>Nat.not_lt_zero _];exact Nat.le_refl _
 |succ a ih=>
  have h1:cnt (fun i=>f i<a+1) k≤cnt (fun i=>f i<a∨f i=a) k:=cnt_imp fun i _ h=>by omega
  have h2:=cnt_or (p:=fun i=>f i<a) (q:=fun i=>f i=a) k;have h3:cnt (fun i=>f i=a) k≤1:=cnt_one fun i j hi hj e1 e2=>hf i j hi hj (e1.trans e2.symm)
  omega
theorem miss_cnt {m:Nat} {T U:Tab} (k:Nat):miss m T U k≤cnt (fun i=> ¬Bas m U (T.bas i)) k:=by
 induction k with
 |zero=>exact Nat.le_refl _
 |succ k ih=>
  unfold miss cnt
  by_cases c:Bas m U (T.bas k)
  ·rw[if_pos c,if_neg (fun h=>h c)];omega
  ·rw[if_neg c,if_pos c];omega
end
section
variable {m n N:Nat} {A:Nat→Nat→Rat} {B C:Nat→Rat} {T U:Tab} {v:Rat} {z x:Nat→Rat}
theorem Way.miss (h:Way m n A B T):miss m T (tab0 m n A B) m≤n+1:=by
 have h1:=miss_cnt (m:=m) (T:=T) (U:=tab0 m n A B) m
 have h2:cnt (fun i=> ¬Bas m (tab0 m n A B) (T.bas i)) m≤cnt (fun i=>T.bas i<n∨T.bas i=n+m) m:=cnt_imp fun i hi hb=>by
  have:=h.inv.bas i hi
  rcases Nat.lt_or_ge (T.bas i) n with c|c
  ·exact .inl c
  ·refine .inr (Classical.byContradiction fun e=>hb ⟨T.bas i-n,by omega,?_⟩)
   show n+(T.bas i-n)=T.bas i
   omega
 have h3:=cnt_or (p:=fun i=>T.bas i<n) (q:=fun i=>T.bas i=n+m) m;have h4:cnt (fun i=>T.bas i<n) m≤n:=cnt_lt (fun i j hi hj e=>h.inv.inj hi hj e) n;have h5:cnt (fun i=>T.bas i=n+m) m≤1:=cnt_one fun i j hi hj e1 e2=>h.inv.inj hi hj (e1.trans e2.symm)
 omega
theorem Way.bnd' {D H:Nat} (h:Way m n A B T) (h0:Bnd m (n+m+1) D H (tab0 m n A B)): ∃E,Bnd m (n+m+1) E (grow (n+1) H) T:=
 reach h.inv (n+1) (tab0 m n A B) tab0_inv (fun x=>(h.req x).symm) h.miss h0
def lexA(m:Nat)(A:Nat→Nat→Rat)(C:Nat→Rat)(i c:Nat):Rat:=if i<m then A i c else if i=m then-C c else if c=i-(m+1) then 1 else 0
def lexB(m:Nat)(B:Nat→Rat)(v:Rat)(z:Nat→Rat)(i:Nat):Rat:=if i<m then B i else if i=m then-v else z (i-(m+1))
def lexC(j c:Nat):Rat:=if c=j then-1 else 0
theorem lexC_sum {j:Nat} (hj:j<n) (x:Nat→Rat):S n (fun c=>lexC j c*x c)= -x j:=by
 rw[S_single (k:=j) hj]
 ·unfold lexC;rw[if_pos rfl];grind
 ·intro c _ hne;unfold lexC;rw[if_neg hne,Rat.zero_mul]
theorem unit_sum {i:Nat} (hi:i<n) (x:Nat→Rat):S n (fun c=>(if c=i then 1 else 0)*x c)=x i:=by
 rw[S_single (k:=i) hi]
 ·rw[if_pos rfl];grind
 ·intro c _ hne;rw[if_neg hne,Rat.zero_mul]
theorem lex_feas {j:Nat} (hj:j≤n):Feas (m+1+j) n (lexA m A C) (lexB m B v z) x↔Feas m n A B x∧v≤S n (fun c=>C c*x c)∧∀i,i<j→x i≤z i:=by
 have hneg:S n (fun c=> -C c*x c)= -S n (fun c=>C c*x c):=by
  have h:S n (fun c=> -C c*x c)=S n (fun c=>(-1)*(C c*x c)):=S_congr fun c _=>by grind
  rw[h,S_mul]
  grind
 constructor
 ·rintro ⟨h1,h2⟩
  refine⟨⟨h1,fun i hi=>?_⟩,?_,fun i hi=>?_⟩
  ·have:=h2 i (by omega)
   unfold lexB at this;rw[if_pos hi] at this
   rwa [S_congr fun c _=>by unfold lexA;rw[if_pos hi]] at this
  ·have:=h2 m (by omega)
   unfold lexB at this
   rw[if_neg (by omega),if_pos rfl] at this
   rw[S_congr fun c _=>by unfold lexA;rw[if_neg (by omega),if_pos rfl],hneg] at this
   grind
  ·have:=h2 (m+1+i) (by omega)
   unfold lexB at this
   rw[if_neg (by omega),if_neg (by omega),show m+1+i-(m+1)=i by omega] at this
   rwa [S_congr fun c _=>by unfold lexA;rw[if_neg (by omega),if_neg (by omega),show m+1+i-(m+1)=i by omega],unit_sum (by omega)] at this
 ·rintro ⟨⟨h1,h2⟩,h3,h4⟩
  refine⟨h1,fun i hi=>?_⟩
  unfold lexB
  rcases Nat.lt_or_ge i m with c|c
  ·rw[if_pos c,S_congr fun k _=>by unfold lexA;rw[if_pos c]]
   exact h2 i c
  ·by_cases e:i=m
   ·rw[if_neg (by omega),if_pos e,S_congr fun k _=>by unfold lexA;rw[if_neg (by omega),if_pos e],hneg]
    grind
   ·rw[if_neg (by omega),if_neg e,S_congr fun k _=>by unfold lexA;rw[if_neg (by omega),if_neg e],unit_sum (by omega)]
    exact h4 _ (by omega)
theorem Lex.face_of (h:Lex m n A B C v z) (hv: ∀x,Feas m n A B x→S n (fun c=>C c*x c)≤v) {j:Nat} (hj:j≤n) (hx:Feas m n A B x) (h1:v≤S n (fun c=>C c*x c)) (h2: ∀i,i<j→x i≤z i):Face m n A B C v z j x:=by
 have hval:S n (fun c=>C c*x c)=v:=Rat.le_antisymm (hv x hx) h1
 refine⟨hx,hval,?_⟩
 have key: ∀k,k≤j→∀i,i<k→x i=z i:=by
  intro k
  induction k with
  |zero=>intro _ i hi;omega
  | succ k ih=>
   intro hk i hi
   have h0:=ih (by omega)
   rcases Nat.lt_or_ge i k with hl|hl
   ·exact h0 i hl
   ·obtain rfl:i=k:=by omega
    exact Rat.le_antisymm (h2 i (by omega)) (h.least i (by omega) x ⟨hx,hval,h0⟩)
 exact key j (Nat.le_refl _)
theorem Lex.value (h:Lex m n A B C v z) (hv: ∀x,Feas m n A B x→S n (fun c=>C c*x c)≤v) {j:Nat} (hj:j<n) {X Y:Nat→Rat} {q:Rat} (hc:Cert (m+1+j) n (lexA m A C) (lexB m B v z) (lexC j) X Y q):q= -z j:=by
 obtain⟨h1,h2,h3⟩:=(lex_feas (by omega)).1 hc.px
 have hf:=h.face_of hv (by omega) h1 h2 h3
 have e1:q= -X j:=by rw[←hc.vx,lexC_sum hj]
 have hz:Feas (m+1+j) n (lexA m A C) (lexB m B v z) z:=(lex_feas (by omega)).2 ⟨h.feas,by rw[h.val];exact Rat.le_refl,fun i _=>Rat.le_refl⟩
 have h4:=weak hz hc.py;rw[lexC_sum hj,hc.vy] at h4;have h5:=h.least j hj X hf
 grind
theorem Lex.code (h:Lex m n A B C v z) {j k:Nat} (hj:j<n) (ho:Out (m+1+j) n (lexA m A C) (lexB m B v z) (lexC j) k):k=0:=by
 have hz:Feas (m+1+j) n (lexA m A C) (lexB m B v z) z:=(lex_feas (by omega)).2 ⟨h.feas,by rw[h.val];exact Rat.le_refl,fun i _=>Rat.le_refl⟩
 cases ho with
 |ok _=>rfl
 |empty h1=>exact absurd hz (h1 z)
 | @unb x d h1=>
  have h2:=h1.dval;rw[lexC_sum hj] at h2;have:=h1.dpos j hj
  grind
theorem Lex.of_feas {m':Nat} {A':Nat→Nat→Rat} {B':Nat→Rat} (h:Lex m n A B C v z) (he: ∀x,Feas m n A B x↔Feas m' n A' B' x):Lex m' n A' B' C v z:=
 ⟨(he _).1 h.feas,h.val,fun k hk x hx=>h.least k hk x ⟨(he _).2 hx.feas,hx.val,hx.first⟩⟩
end
end Lp
