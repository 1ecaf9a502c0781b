/- Parts of the proofs about this seat's statements. -/
import Derived.Test.YtinmmkcjjlconaaGreatL1v
set_option maxRecDepth 100000
set_option maxHeartbeats 16000000
namespace Go.Proofs.YtinmmkcjjlconaaGreat
open Go.RowKit W
open Pl (nb)
open Lp (Tab wc cst S S_succ S_zero S_congr Q Inv0 Cert)
section
variable {m n N:Nat} {U T:Tab} {g F G:Nat→Rat} {A:Nat→Nat→Rat} {B C:Nat→Rat} {w0 w:World} {b:Nat}
structure CTp (m N:Nat) (U:Tab) (F:Nat→Rat) (b:Nat) (ar:Option Addr) (cr:Nat) (ab:Option Addr) (cb gc cc:Nat) (rv_:Nat→Value) (T:Nat→Thing):Prop where
  bx:T 0=boxT b [.slice ar m cr,.slice ab m cb,.slice (some ⟨gc,0,none⟩) (N+1) cc]
  rs:T 1=valsT (.slice ar m cr) ((List.range m).map rv_)
  bs:T 2=intT (.slice ab m cb) ((List.range m).map fun i=>.int .i64 (U.bas i:Int))
  co:T 3=listT (.slice (some ⟨gc,0,none⟩) (N+1) cc) (raws (N+1) F)
  ro: ∀i,i<m→T (4+i)=listT (rv_ i) (raws (N+1) (rowF N U i))
def RTC(w0 W:World)(b m N:Nat)(U:Tab)(F:Nat→Rat):Prop:= ∃ar cr ab cb gc cc rv_ T,Sep w0 W T∧CTp m N U F b ar cr ab cb gc cc rv_ T
theorem RT.toC (h:RT w0 w b m N U):RTC w0 w b m N U (costF N U):=by
 obtain⟨ar,cr,ab,cb,ac,cc,rv_,T,hS,hp⟩:=h
 obtain⟨gc,rfl,_⟩:=(hS.lst hp.co).slr.get (show 0<N+1 by omega)
 exact⟨ar,cr,ab,cb,gc,cc,rv_,T,hS,hp.bx,hp.rs,hp.bs,hp.co,hp.ro⟩
theorem RTC.congr (h:RTC w0 w b m N U F) (e: ∀j,j≤N→F j=G j):RTC w0 w b m N U G:=by
 obtain⟨ar,cr,ab,cb,gc,cc,rv_,T,hS,hp⟩:=h
 have e2:raws (N+1) F=raws (N+1) G:=raws_congr fun j hj=>e j (by omega)
 exact⟨ar,cr,ab,cb,gc,cc,rv_,T,hS,hp.bx,hp.rs,hp.bs,e2▸hp.co,hp.ro⟩
theorem RTC.to (h:RTC w0 w b m N U F) (e: ∀j,j≤N→F j=costF N (wc m U g) j):RT w0 w b m N (wc m U g):=by
 obtain⟨ar,cr,ab,cb,gc,cc,rv_,T,hS,hp⟩:=h.congr e
 exact⟨ar,cr,ab,cb,_,cc,rv_,T,hS,hp.bx,hp.rs,hp.bs,hp.co,hp.ro⟩
theorem RTC.acc (h:RTC w0 w b m N U F):Below w0.heap.size w0 w:=by
 obtain⟨ar,cr,ab,cb,gc,cc,rv_,T,hS,hp⟩:=h
 exact hS.acc
theorem RT.acc(h:RT w0 w b m N U):Below w0.heap.size w0 w:=h.toC.acc
theorem RTC.rowAt {i:Nat} (h:RTC w0 w b m N U F) (hi:i<m): ∃ga cr gb cb gQ cQ,w.cell? ⟨b,0,none⟩=some (.slice (some ⟨ga,0,none⟩) m cr)∧w.cell? ⟨b,1,none⟩=some (.slice (some ⟨gb,0,none⟩) m cb)∧w.cell? ⟨ga,i,none⟩=some (.slice (some ⟨gQ,0,none⟩) (N+1) cQ)∧w.cell? ⟨gb,i,none⟩=some (.int .i64 (U.bas i:Int))∧∀j,j<N+1→E3 w gQ j (q3 (rowF N U i j)):=by
 obtain⟨ar,cr,ab,cb,gc,cc,rv_,T,hS,hp⟩:=h
 obtain⟨a,b,c,d,e,f,h1,h2,h3,h4,h5⟩:=RT.rowAt (U:=⟨U.a,U.b,U.bas,F, -F N⟩) ⟨ar,cr,ab,cb,_,cc,rv_,T,hS,hp.bx,hp.rs,hp.bs,by
  have e2:raws (N+1) F=raws (N+1) (costF N ⟨U.a,U.b,U.bas,F, -F N⟩):=raws_congr fun j hj=>by
   unfold costF
   split
   ·rfl
   ·obtain rfl:j=N:=by omega
    exact(Rat.neg_neg _).symm
  exact e2▸hp.co,hp.ro⟩ hi
 exact⟨a,b,c,d,e,f,h1,h2,h3,h4,h5⟩
theorem RTC.of {M gc cc cr cb:Nat} {ar ab:Option Addr} {rv_:Nat→Value} {T T':Nat→Thing} {F':Nat→Rat} (hM:N+1=M) (hS:Sep w0 w T') (hk: ∀z,z≠0→z≠3→T' z=T z)
  (h0:T' 0=boxT b [.slice ar m cr,.slice ab m cb,.slice (some ⟨gc,0,none⟩) M cc]) (h3:T' 3=listT (.slice (some ⟨gc,0,none⟩) M cc) (raws M F'))
  (rs:T 1=valsT (.slice ar m cr) ((List.range m).map rv_)) (bs:T 2=intT (.slice ab m cb) ((List.range m).map fun i=>.int .i64 (U.bas i:Int))) (ro: ∀i,i<m→T (4+i)=listT (rv_ i) (raws M (rowF N U i)))
  (e: ∀j,j≤N→F' j=G j):RTC w0 w b m N U G:=by
 subst hM
 exact RTC.congr ⟨ar,cr,ab,cb,gc,cc,rv_,T',hS,h0,(hk 1 (by decide) (by decide)).trans rs,(hk 2 (by decide) (by decide)).trans bs,h3,fun i hi=>(hk _ (by omega) (by omega)).trans (ro i hi)⟩ e
theorem Sep.intat {x g m c j:Nat} {F:Nat→Nat} {T:Nat→Thing} (hS:Sep w0 w T) (e:T x=intT (.slice (some ⟨g,0,none⟩) m c) ((List.range m).map fun i=>.int .i64 (F i:Int))) (hj:j<m):w.cell? ⟨g,j,none⟩=some (.int .i64 (F j:Int)):=by
 have hv:=hS.ints e
 rw[(hv.rowC rfl).2 j (by simpa using hj)]
 simp[List.getD_eq_getElem?_getD,hj]
theorem Sep.rowat2{x g m c j:Nat}{rv_:Nat→Value}{u:Value}{T:Nat→Thing}(hS:Sep w0 w T)(e:T x=valsT (.slice (some ⟨g,0,none⟩) m c) ((List.range m).map rv_))(hj:j<m)(eu:rv_ j=u):w.cell? ⟨g,j,none⟩=some u:=eu▸hS.rowat e (vals_at hj)
def mixF(N:Nat)(U:Tab)(g:Nat→Rat)(k j:Nat):Rat:=if j<k then g j else costF N U j
theorem mixF_zero:mixF N U g 0=costF N U:=funext fun _=>if_neg (by omega)
theorem mixF_set {k j:Nat} {q:Rat} (hq:q=g k):upd (mixF N U g k) k q j=mixF N U g (k+1) j:=by
 unfold upd mixF
 by_cases e:j=k
 ·rw[if_pos e,if_pos (by omega),hq,e]
 ·rw[if_neg e]
  by_cases h:j<k
  ·rw[if_pos h,if_pos (by omega)]
  ·rw[if_neg h,if_neg (by omega)]
theorem mixF_all{j:Nat}(h:j≤N):mixF N U g (N+1) j=g j:=if_pos (by omega)
def costP(N:Nat)(U:Tab)(g:Nat→Rat)(i j:Nat):Rat:=g j-S i (fun q=>g (U.bas q)*rowF N U q j)
theorem costP_zero{j:Nat}:costP N U g 0 j=g j:=by unfold costP;rw[S_zero];grind
theorem costP_bas {i:Nat} (hI:Inv0 m N U) (hi:i<m):costP N U g i (U.bas i)=g (U.bas i):=by
 unfold costP
 rw[Lp.S_eq0 fun q hq=>by rw[row_lt (hI.bas i hi),hI.unit q i (by omega) hi,if_neg (by omega),Rat.mul_zero]]
 grind
theorem costP_succ {i:Nat} (hI:Inv0 m N U) (hi:i<m) (j:Nat):costP N U g i j-costP N U g i (U.bas i)*rowF N U i j=costP N U g (i+1) j:=by
 rw[costP_bas hI hi];unfold costP;rw[S_succ]
 grind
theorem costP_end (hg:g N=0) {j:Nat} (hj:j≤N):costP N U g m j=costF N (wc m U g) j:=by
 by_cases h:j<N
 ·rw[cost_lt h]
  unfold costP
  rw[S_congr fun q _=>by rw[row_lt h]]
  rfl
 ·obtain rfl:j=N:=by omega
  rw[cost_end];unfold costP
  rw[S_congr fun q _=>by rw[row_end],hg]
  show 0-S m (fun q=>g (U.bas q)*U.b q)= -S m (fun q=>g (U.bas q)*U.b q)
  grind
theorem costP_Sz (hm:m≤100) (hI:Inv0 m N U) (hg: ∀j,j≤N→Sz (g j) 40000) (hr: ∀i j,i<m→j≤N→Sz (rowF N U i j) 40000) {i j:Nat} (hi:i≤m) (hj:j≤N):Sz (costP N U g i j) 16000000:=by
 have h1:=Sz_S (n:=m) (k:=80000) (f:=fun q=>g (U.bas q)*rowF N U q j) (fun q hq=>Sz_mul (hg _ (Nat.le_of_lt (hI.bas q hq))) (hr q j hq hj)) i hi
 refine(Sz_sub (hg j hj) h1).mono ?_
 have:=Nat.mul_le_mul_left 80001 (Nat.le_trans hi hm)
 omega
def bsolP(T:Tab)(j i:Nat):Rat:=S i (fun q=>if T.bas q=j then T.b q else 0)
theorem bsolP_zero{j:Nat}:bsolP T j 0=0:=S_zero _
theorem bsolP_hit {i j:Nat} (hI:Inv0 m N T) (hi:i<m) (e:T.bas i=j):bsolP T j (i+1)=T.b i:=by
 unfold bsolP
 rw[S_succ,if_pos e,Lp.S_eq0 fun q hq=>if_neg fun e2=>absurd (hI.inj (show q<m by omega) hi (e2.trans e.symm)) (by omega)]
 exact Rat.zero_add _
theorem bsolP_miss {i j:Nat} (e:T.bas i≠j):bsolP T j (i+1)=bsolP T j i:=by
 unfold bsolP;rw[S_succ,if_neg e]
 exact Rat.add_zero _
theorem bsolP_Sz {i j K:Nat} (hK:8≤K) (hI:Inv0 m N T) (hr: ∀i,i<m→Sz (T.b i) K) (hi:i≤m):Sz (bsolP T j i) K:=by
 induction i with
 |zero=>rw[bsolP_zero];exact Sz_zero.mono hK
 |succ i ih=>
  by_cases e:T.bas i=j
  ·rw[bsolP_hit hI (by omega) e];exact hr i (by omega)
  ·rw[bsolP_miss e];exact ih (by omega)
theorem certR (w:Lp.Way m n A B T) (hh: ¬Lp.Bas m T (n+m)) (he:Lp.End m (n+m+1) (· <n+m) (cst n C) T):Cert m n A B C (fun j=>bsolP T j m) (fun i=> -costF (n+m+1) (wc m T (cst n C)) (n+i)) (wc m T (cst n C)).v:=by
 obtain⟨h1,⟨h2,h3⟩,h4,h5⟩:=Lp.cert_of (C:=C) w.inv w.req w.src w.pos hh (fun j hj=>he j (by omega) hj)
 have e: ∀i,i<m→ -costF (n+m+1) (wc m T (cst n C)) (n+i)=S m (fun q=>cst n C (T.bas q)*T.a q (n+i)):=fun i hi=>by
  rw[cost_lt (by omega)]
  show-(cst n C (n+i)-S m (fun q=>cst n C (T.bas q)*T.a q (n+i)))=_
  rw[show cst n C (n+i)=0 from if_neg (by omega)]
  grind
 refine⟨h1,⟨fun i hi=>?_,fun j hj=>?_⟩,h4,?_⟩
 ·show 0≤ -costF (n+m+1) (wc m T (cst n C)) (n+i)
  rw[e i hi];exact h2 i hi
 ·have h6:S m (fun i=>A i j* -costF (n+m+1) (wc m T (cst n C)) (n+i))=S m (fun i=>A i j*S m (fun q=>cst n C (T.bas q)*T.a q (n+i))):=S_congr fun i hi=>by rw[e i hi]
  show C j≤S m (fun i=>A i j* -costF (n+m+1) (wc m T (cst n C)) (n+i))
  rw[h6];exact h3 j hj
 ·have h6:S m (fun i=>B i* -costF (n+m+1) (wc m T (cst n C)) (n+i))=S m (fun i=>B i*S m (fun q=>cst n C (T.bas q)*T.a q (n+i))):=S_congr fun i hi=>by rw[e i hi]
  show S m (fun i=>B i* -costF (n+m+1) (wc m T (cst n C)) (n+i))=_
  rw[h6];exact h5
theorem unbR {s:Nat} (w:Lp.Way m n A B T) (hh: ¬Lp.Bas m T (n+m)) (hf:Lp.Free m (n+m+1) id (· <n+m) (cst n C) T s):Lp.Out m n A B C 2:=
 .unb (Lp.unb_of w.inv w.req w.pos hh hf.als hf.cs hf.no)
structure FitR (m n:Nat) (A:Nat→Nat→Rat) (B C:Nat→Rat):Prop where
  h: ∀V,Lp.Way m n A B V→∀j,j≤n+m+1→Sz (costF (n+m+1) (wc m V (Lp.hc (n+m))) j) 40000
  c: ∀V,Lp.Way m n A B V→∀j,j≤n+m+1→Sz (costF (n+m+1) (wc m V (cst n C)) j) 40000
theorem wcost_Q {D H E K j:Nat} (hb:Lp.Bnd m N D H T) (hg: ∀j,Q E K (g j)) (hI:Inv0 m N T) (hj:j≤N):Q (E*D) ((m+1)*(K*H)) (costF N (wc m T g) j):=by
 have e:(m+1)*(K*H)=K*H+m*(K*H):=by rw[Nat.add_mul];omega
 by_cases h:j<N
 ·rw[cost_lt h,e]
  show Q _ _ (g j-S m (fun q=>g (T.bas q)*T.a q j))
  exact(((hg j).scale D).mono (Nat.mul_le_mul_left _ hb.le)).sub (Lp.Q_dot (fun i _=>hg _) (fun i hi=>hb.a i j hi h) m (Nat.le_refl _))
 ·obtain rfl:j=N:=by omega
  rw[cost_end]
  show Q _ _ (-S m (fun q=>g (T.bas q)*T.b q))
  exact(Lp.Q_dot (fun i _=>hg _) (fun i hi=>hb.b i hi) m (Nat.le_refl _)).neg.mono (by omega)
theorem Small.costs {D H s K:Nat} (h:Small m n A B C D H s) (hm:m<100) (hk:7+s+2^m*(s+1)≤8*K) {V:Tab} (w:Lp.Way m n A B V) (hg: ∀j,Q D H (g j)) {j:Nat} (hj:j≤n+m+1):Sz (costF (n+m+1) (wc m V g) j) K:=by
 have h0:=Lp.tab0_bnd h.d0 h.dh h.a h.b;have hgr:=Lp.grow_lt m H s h.hs;obtain⟨F,hF⟩:=w.bnd h0;have hq:=wcost_Q hF hg w.inv hj;have hp1:D*F≤H*Lp.grow m H:=Nat.mul_le_mul h.dh hF.le;have hp2:H*Lp.grow m H<2^s*2^(2^m*(s+1)):=Nat.mul_lt_mul'' h.hs hgr
 have hp3:(m+1)*(H*Lp.grow m H)<2^(7+s+2^m*(s+1)):=by
  rw[show 7+s+2^m*(s+1)=7+(s+2^m*(s+1)) by omega,Nat.pow_add,Nat.pow_add]
  exact Nat.mul_lt_mul'' (by omega) hp2
 exact Sz_Q (Nat.mul_pos h.d0 hF.pos) hq (Nat.le_trans hp1 (Nat.le_mul_of_pos_left _ (by omega))) hp3 (by omega)
theorem Small.fitR {D H s:Nat} (h:Small m n A B C D H s) (hm:m<100) (hk:7+s+2^m*(s+1)≤320000):FitR m n A B C where
 h:=fun V w j hj=>h.costs hm hk w (fun j=>by
  unfold Lp.hc
  split
  ·exact int_Q (z:= -1) (by have:=h.dh;simpa using this)
  ·exact Q.zero _ _) hj
 c:=fun V w j hj=>h.costs hm hk w (cst_Q h.c) hj
structure SzV (m n:Nat) (A:Nat→Nat→Rat) (B C:Nat→Rat) (K:Nat):Prop where
  b: ∀V,Lp.Way m n A B V→∀i,i<m→Sz (V.b i) K
  c: ∀V,Lp.Way m n A B V→∀j,j≤n+m+1→Sz (costF (n+m+1) (wc m V (cst n C)) j) K
theorem plan_fitR (zs:List Int) (m n:Nat) (hm:m≤6):FitR m n (plA zs n) (plB zs n) (plC zs m n):=(plan_small zs m n).fitR (by omega) (by
 have:=Nat.pow_le_pow_right (n:=2) (by decide) hm
 omega)
theorem Fit.rows (f:Fit m n A B) {V:Tab} (w:Lp.Way m n A B V) {i j:Nat} (hi:i<m) (_hj:j≤n+m+1):Sz (rowF (n+m+1) V i j) 40000:=by
 unfold rowF
 split
 ·next h=>exact f.a V w i j hi h
 ·exact f.b V w i hi
theorem Fit.row0 (f:Fit m n A B) {i j:Nat} (hi:i<m) (_hj:j≤n+m+1):Sz (rowF (n+m+1) (Lp.tab0 m n A B) i j) 40000:=by
 unfold rowF
 split
 ·exact f.t i j hi
 ·exact f.r i hi
end
end Go.Proofs.YtinmmkcjjlconaaGreat
namespace Go.Proofs.YtinmmkcjjlconaaGreat
open Go.RowKit W
open Pl (nb)
open Lp (Tab wc cst S Q grow grow_lt)
section
variable {m n D H s K:Nat} {A:Nat→Nat→Rat} {B C g:Nat→Rat} {V:Tab}
theorem Small.tab2(h:Small m n A B C D H s)(w:Lp.Way m n A B V): ∃E,Lp.Bnd m (n+m+1) E (grow (n+1) H) V:=w.bnd' (Lp.tab0_bnd h.d0 h.dh h.a h.b)
theorem Small.fit2 (h:Small m n A B C D H s) (hk:2^(n+1)*(s+1)≤320000):Fit m n A B:=by
 have h0:=Lp.tab0_bnd h.d0 h.dh h.a h.b;have hg:=grow_lt (n+1) H s h.hs
 have hs2:s≤2^(n+1)*(s+1):=Nat.le_trans (by omega) (Nat.le_mul_of_pos_left _ (Nat.pow_pos (by decide)))
 refine⟨fun i j hi=>?_,fun i hi=>?_,fun U w i j hi hj=>?_,fun U w i hi=>?_⟩
 ·by_cases hj:j<n+m+1
  ·exact Sz_Q h.d0 (h0.a i j hi hj) h.dh h.hs (by omega)
  ·have:Lp.mat m n A i j=0:=by unfold Lp.mat;rw[if_neg (by omega),if_neg (by omega),if_neg (by omega)]
   rw[this];exact Sz_zero.mono (by decide)
 ·exact Sz_Q h.d0 (h0.b i hi) h.dh h.hs (by omega)
 ·obtain⟨E,hE⟩:=h.tab2 w
  exact Sz_Q hE.pos (hE.a i j hi hj) hE.le hg (by omega)
 ·obtain⟨E,hE⟩:=h.tab2 w
  exact Sz_Q hE.pos (hE.b i hi) hE.le hg (by omega)
theorem Small.fitG2 (h:Small m n A B C D H s) (hm:m<128) (hk:7+s+2^(n+1)*(s+1)≤320000) (hq: ∀j,Q D H (g j)):FitG m n A B g:=by
 have hgr:=grow_lt (n+1) H s h.hs
 refine⟨fun j _=>Sz_Q h.d0 (hq j) h.dh h.hs (by omega),fun U w k hk'=>?_⟩
 obtain⟨F,hF⟩:=h.tab2 w;have hp:=Lp.price_Q hF (fun j _=>hq j) w.inv hk';have hp1:D*F≤H*grow (n+1) H:=Nat.mul_le_mul h.dh hF.le;have hp2:H*grow (n+1) H<2^s*2^(2^(n+1)*(s+1)):=Nat.mul_lt_mul'' h.hs hgr
 have hp3:m*(H*grow (n+1) H)<2^(7+s+2^(n+1)*(s+1)):=by
  rw[show 7+s+2^(n+1)*(s+1)=7+(s+2^(n+1)*(s+1)) by omega,Nat.pow_add,Nat.pow_add]
  exact Nat.mul_lt_mul'' (by omega) hp2
 have hm0:0<m:=Nat.lt_of_le_of_lt (Nat.zero_le _) hk'
 exact Sz_Q (Nat.mul_pos h.d0 hF.pos) hp (Nat.le_trans hp1 (Nat.le_mul_of_pos_left _ hm0)) hp3 (by omega)
theorem Small.fits2 (h:Small m n A B C D H s) (hm:m≤100) (hn:n≤400) (hk:7+s+2^(n+1)*(s+1)≤320000):Fits m n A B C:=by
 have f:=h.fit2 (by omega)
 have fg:=h.fitG2 (g:=cst n C) (by omega) hk (cst_Q h.c)
 exact⟨hm,hn,f,fg,szP_of f fg⟩
theorem Small.costs2 (h:Small m n A B C D H s) (hm:m<100) (hk:7+s+2^(n+1)*(s+1)≤8*K) (w:Lp.Way m n A B V) (hg: ∀j,Q D H (g j)) {j:Nat} (hj:j≤n+m+1):Sz (costF (n+m+1) (wc m V g) j) K:=by
 have hgr:=grow_lt (n+1) H s h.hs;obtain⟨F,hF⟩:=h.tab2 w;have hq:=wcost_Q hF hg w.inv hj;have hp1:D*F≤H*grow (n+1) H:=Nat.mul_le_mul h.dh hF.le;have hp2:H*grow (n+1) H<2^s*2^(2^(n+1)*(s+1)):=Nat.mul_lt_mul'' h.hs hgr
 have hp3:(m+1)*(H*grow (n+1) H)<2^(7+s+2^(n+1)*(s+1)):=by
  rw[show 7+s+2^(n+1)*(s+1)=7+(s+2^(n+1)*(s+1)) by omega,Nat.pow_add,Nat.pow_add]
  exact Nat.mul_lt_mul'' (by omega) hp2
 exact Sz_Q (Nat.mul_pos h.d0 hF.pos) hq (Nat.le_trans hp1 (Nat.le_mul_of_pos_left _ (by omega))) hp3 (by omega)
theorem Small.hcQ (h:Small m n A B C D H s) (k j:Nat):Q D H (Lp.hc k j):=by
 unfold Lp.hc
 split
 ·exact int_Q (z:= -1) (by have:=h.dh;simpa using this)
 ·exact Q.zero _ _
theorem Small.fitR2 (h:Small m n A B C D H s) (hm:m<100) (hk:7+s+2^(n+1)*(s+1)≤320000):FitR m n A B C where
 h:=fun _ w _ hj=>h.costs2 hm hk w (h.hcQ _) hj
 c:=fun _ w _ hj=>h.costs2 hm hk w (cst_Q h.c) hj
end
theorem Small.lexQ {m n D H s:Nat} {A:Nat→Nat→Rat} {B C:Nat→Rat} {V:Tab} (h:Small m n A B C D H s) (w:Lp.Way m n A B V): ∃E,0<E∧E≤grow (n+1) H∧∀j,Q E (grow (n+1) H) (Lp.bsol m V j):=by
 obtain⟨E,hE⟩:=h.tab2 w
 refine⟨E,hE.pos,hE.le,fun j=>?_⟩
 by_cases hb:Lp.Bas m V j
 ·obtain⟨i,hi,rfl⟩:=hb
  have:Lp.bsol m V (V.bas i)=V.b i:=by
   unfold Lp.bsol;rw[Lp.S_single (k:=i) hi]
   ·rw[if_pos rfl]
   ·intro k hk hne
    rw[if_neg (fun e=>hne (w.inv.inj hk hi e))]
  rw[this]
  exact hE.b i hi
 ·rw[Lp.bsol_oth hb];exact Q.zero _ _
theorem lex_small {m n j s E G:Nat} {A:Nat→Nat→Rat} {B C:Nat→Rat} {z:Nat→Rat} (h:Small m n A B C 12 204 s) (hn:n≤6) (hE:0<E) (hEG:E≤G) (hz: ∀i,Q E G (z i)) {t:Nat} (ht:1224*G<2^t):
  Small (m+1+j) n (Lp.lexA m A C) (Lp.lexB m B (S n (fun c=>C c*z c)) z) (Lp.lexC j) (12*E) (1224*G) t where
 d0:=Nat.mul_pos (by decide) hE
 dh:=Nat.mul_le_mul (by decide) hEG
 hs:=ht
 a :=fun i c hi hc=>by
  unfold Lp.lexA
  split
  ·next h1=>exact((h.a i c h1 hc).scale E).mono (Nat.mul_le_mul (by decide) hEG)
  ·split
   ·exact((h.c c hc).neg.scale E).mono (Nat.mul_le_mul (by decide) hEG)
   ·split
    ·exact int_Q (z:=1) (by simpa using Nat.mul_le_mul (show 12≤1224 by decide) hEG)
    ·exact Q.zero _ _
 b :=fun i hi=>by
  unfold Lp.lexB
  split
  ·next h1=>exact((h.b i h1).scale E).mono (Nat.mul_le_mul (by decide) hEG)
  ·split
   ·refine(Lp.Q_dot (fun c hc=>h.c c hc) (fun c _=>hz c) n (Nat.le_refl _)).neg.mono ?_
    rw[←Nat.mul_assoc]
    exact Nat.mul_le_mul_right _ (by omega)
   ·have h2:=(hz (i-(m+1))).scale 12
    rw[Nat.mul_comm E 12] at h2
    exact h2.mono (by rw[Nat.mul_comm];exact Nat.mul_le_mul_right _ (by decide))
 c:=fun c _=>by
  unfold Lp.lexC
  split
  ·exact int_Q (z:= -1) (by simpa using Nat.mul_le_mul (show 12≤1224 by decide) hEG)
  ·exact Q.zero _ _
end Go.Proofs.YtinmmkcjjlconaaGreat
namespace Go.Proofs.YtinmmkcjjlconaaGreat
open Go.RowKit W
open Pl (nb bv bv_nb nb_size_zero)
open Lp (S S_succ)
theorem Sep.overlit {wb w W:World} {T:Nat→Thing} {g k:Nat} {l:List Raw} (h:Sep wb w T) (x:Nat) (hr:Rats W 0 (.slice (some ⟨g,0,none⟩) k k) l) (hg:w.heap.size≤g) (hb:Below w.heap.size w W):Sep wb W (upd T x (listT (.slice (some ⟨g,0,none⟩) k k) l)):=
 h.step x _ (off_of hb) hr (fun b hb=>.inr (by
  have hb:some g=some b:=hb
  obtain rfl:g=b:=by simpa using hb
  exact⟨hg,hr.low _ rfl⟩))
theorem Sep.half{wb W:World}{T:Nat→Thing}(h:Sep wb W T):Sep wb W (fun j=>T (2*j)):=⟨h.acc,fun i=>h.p _,fun i=>h.o _,fun i j hne=>h.d _ _ (by omega)⟩
theorem Sep.set3 {wb W:World} {T:Nat→Thing} {x g:Nat} {a b c:Value} (h:Sep wb W T) (hx:T x=boxT g [a,b,c]) (a' b' c':Value):
  Sep wb (((W.setCell ⟨g,0,none⟩ a').setCell ⟨g,1,none⟩ b').setCell ⟨g,2,none⟩ c') (upd T x (boxT g [a',b',c'])):=by
 have h5:=((h.setbox hx a' (j:=0) (by simp)).setbox (upd_same _ _ _) b' (j:=1) (by simp)).setbox (upd_same _ _ _) c' (j:=2) (by simp)
 simp only[List.set,upd_upd] at h5
 exact h5
theorem cell_one (a:Option Addr) (n c:Nat): ∀u∈ [Value.slice a n c],u.oneCell'=true:=fun u hu=>by
 simp only[List.mem_cons,List.not_mem_nil,or_false] at hu
 subst hu
 rfl
theorem copyS_any (p:Value) (m n:Nat) (A:Nat→Nat→Rat) (B C:Nat→Rat) (w:World) (h:PR w p m n A B C) (hm:m≤1000) (hn:n≤1000):
  Calls Tryz.prog 27 #[p] w fun e w'=> ∃a0 c0 a1 c1 a2 c2,e= .returned (.agg #[.slice a0 m c0,.slice a1 m c1,.slice a2 n c2])∧∃rv_ T,Sep w w' T∧Parts m n A B C (.slice a0 m c0) (.slice a1 m c1) (.slice a2 n c2) rv_ T:=by
 obtain⟨pa,pb,pc,rfl,hA,hB,hC⟩:=h.ex
 obtain⟨aA,cA,rfl⟩: ∃a c,pa= .slice a m c:=by obtain⟨a,c,e,_⟩:=hA;exact⟨a,c,e⟩
 obtain⟨aB,cB,rfl⟩: ∃a c,pb= .slice a m c:=by obtain⟨a,c,e,_⟩:=hB;exact⟨a,c,e⟩
 obtain⟨aC,cC,rfl⟩: ∃a c,pc= .slice a n c:=by obtain⟨a,c,e,_⟩:=hC;exact⟨a,c,e⟩
 have HRA:=Lib.hid (fun i (hi:i<m)=>hA.row hi);have HSB:=Lib.hid (fun W (hb:Below w.heap.size w W)=>hB.below hb);have HSC:=Lib.hid (fun W (hb:Below w.heap.size w W)=>hC.below hb);clear h hA hB hC
 go_enter Tryz.func27,Tryz.ntmps27
 have hS:=((Sep.start (Below.refl w.heap.size w)).newbox (x:=1) rfl [.slice aA m cA,.slice aB m cB,.slice aC n cC] 29).newbox (x:=3) rfl [.slice none 0 0,.slice none 0 0,.slice none 0 0] 29
 rw[show(w.alloc (.cells #[.slice aA m cA,.slice aB m cB,.slice aC n cC] 29)).heap.size=w.heap.size+1 by simp] at hS
 go_upto_region 1 with fail
 generalize (w.alloc (.cells #[.slice aA m cA,.slice aB m cB,.slice aC n cC] 29)).alloc (.cells #[.slice none 0 0,.slice none 0 0,.slice none 0 0] 29)=W0 at*;generalize w.heap.size+1=gR at*;generalize w.heap.size=gP at hS⊢
 go_cut [3] from 3 to 13 (fun s3 wx=> ∃T g b c a' c',s3= .pointer (some ⟨g,0,none⟩)∧Sep w wx T∧T 0=listT (.slice b m c) (raws m B)∧T 2=listT (.slice a' n c') (raws n C)∧T 4=boxT g [.slice none 0 0,.slice b m c,.slice a' n c']∧T 1=boxT gP [.slice aA m cA,.slice aB m cB,.slice aC n cC]∧T 3=boxT gR [.slice none 0 0,.slice none 0 0,.slice none 0 0])
 case first=>
  replace hS:=hS.drew
  refine wp_schH (S:=fun w'=>w'.cell? ⟨gP,1,none⟩=some (.slice aB m cB)∧w'.cell? ⟨gP,2,none⟩=some (.slice aC n cC)) (hc:=by as_aux_lemma=>kernel_rfl) (.p 1 (.p 2 (.p 5 (.p 6 (.b (.c 0 (.b (.c 3 (.b (.c 4 (.b (.c 7 (.p 8 (.c 9 (.c 10 .e)))) (.c 9 (.c 7 (.p 8 (.c 10 .e)))))) (.c 9 (.c 4 (.c 7 (.p 8 (.c 10 .e))))))) (.b (.c 4 (.b (.c 3 (.b (.c 7 (.p 8 (.c 9 (.c 10 .e)))) (.c 9 (.c 7 (.p 8 (.c 10 .e)))))) (.c 9 (.c 3 (.c 7 (.p 8 (.c 10 .e))))))) (.c 9 (.b (.c 3 (.c 4 (.c 7 (.p 8 (.c 10 .e))))) (.c 4 (.c 3 (.c 7 (.p 8 (.c 10 .e)))))))))) (.b (.c 4 (.b (.c 0 (.b (.c 3 (.b (.c 7 (.p 8 (.c 9 (.c 10 .e)))) (.c 9 (.c 7 (.p 8 (.c 10 .e)))))) (.c 9 (.c 3 (.c 7 (.p 8 (.c 10 .e))))))) (.c 9 (.c 0 (.c 3 (.c 7 (.p 8 (.c 10 .e)))))))) (.c 9 (.b (.c 0 (.b (.c 3 (.c 4 (.c 7 (.p 8 (.c 10 .e))))) (.c 4 (.c 3 (.c 7 (.p 8 (.c 10 .e))))))) (.c 4 (.c 0 (.c 3 (.c 7 (.p 8 (.c 10 .e)))))))))))))) [1] fun zA WD hA aq=>?_
  simp only[←aq.out] at hS
  clear aq
  refine⟨⟨(hS.box (i:=1) rfl).at 1 rfl,(hS.box (i:=1) rfl).at 2 rfl⟩,fun hS0=>?_⟩
  repeat' first
   |((with_reducible refine isP ?_);refine tkO ?_)
   |(with_reducible refine brO ?_ ?_)
   |(
    with_reducible refine isC (i:=0) ?_
    refine liO (i:=0) (k:=0) (l:= []) (by simp) rfl rfl fun _ _ hr hg hb=>?_
    replace hS:=hS.newlit (x:=0) rfl hr hg hb;clear hr hg hb
    refine⟨⟨(hS.box (i:=1) rfl).at 1 rfl,(hS.box (i:=1) rfl).at 2 rfl⟩,?_⟩)
   |(
    with_reducible refine isC (i:=3) ?_
    refine apR (i:=3) (x:=0) (k:=m) hS rfl (HSB.out _ hS.acc) (Nat.zero_add _) (by omega) fun _ _ _ hz _=>?_
    replace hS:=hz;clear hz
    refine⟨⟨(hS.box (i:=1) rfl).at 1 rfl,(hS.box (i:=1) rfl).at 2 rfl⟩,?_⟩)
   |(
    with_reducible refine isC (i:=4) ?_
    refine liO (i:=4) (k:=0) (l:= []) (by simp) rfl rfl fun _ _ hr hg hb=>?_
    replace hS:=hS.newlit (x:=2) rfl hr hg hb;clear hr hg hb
    refine⟨⟨(hS.box (i:=1) rfl).at 1 rfl,(hS.box (i:=1) rfl).at 2 rfl⟩,?_⟩)
   |(
    with_reducible refine isC (i:=7) ?_
    refine apR (i:=7) (x:=2) (k:=n) hS rfl (HSC.out _ hS.acc) (Nat.zero_add _) (by omega) fun _ _ _ hz _=>?_
    replace hS:=hz;clear hz
    refine⟨⟨(hS.box (i:=1) rfl).at 1 rfl,(hS.box (i:=1) rfl).at 2 rfl⟩,?_⟩)
   |(
    with_reducible refine isC (i:=9) ?_
    refine alS (i:=9) (x:=4) (zs:= [.slice none 0 0,.slice none 0 0,.slice none 0 0]) hS rfl fun _ _ hz=>?_
    replace hS:=hz;clear hz
    refine⟨⟨(hS.box (i:=1) rfl).at 1 rfl,(hS.box (i:=1) rfl).at 2 rfl⟩,?_⟩)
   |(
    with_reducible refine isC (i:=10) ?_
    refine stS3 (i:=10) (x:=4) hS rfl fun _ hz=>?_
    replace hS:=hz;clear hz
    refine⟨⟨(hS.box (i:=1) rfl).at 1 rfl,(hS.box (i:=1) rfl).at 2 rfl⟩,?_⟩)
  all_goals(
   refine enP hA ?_
   clear hA
   go_wp2_with fail
   go_meet
   exact⟨_,_,_,_,_,_,rfl,hS,rfl,rfl,rfl,rfl,rfl⟩)
 case rest=>
  clear hS;obtain⟨T,gO,aX,cX,aY,cY,rfl,hS,t0,t2,t4,t1,t3⟩:=hcut;have kp:=(hS.box t1).at 0 rfl
  go_upto_region 3 with fail
  clear kp
  go_loopw [4] (fun s4 wr=> ∃i:Nat,i≤m∧s4= .int .i64 (i:Int)∧∃U aO cO rv_,Sep w wr U∧U 0=T 0∧U 2=T 2∧U 1=T 1∧U 3=T 3∧U 4=boxT gO [.slice aO i cO,.slice aX m cX,.slice aY n cY]∧U 6=valsT (.slice aO i cO) ((List.range i).map rv_)∧∀q,q<i→U (8+2*q)=listT (rv_ q) (raws n (A q))) (fun s4 _=>m-(intOf s4).toNat)
  case atStart=>exact⟨0,by omega,rfl,_,none,0,fun _=>.slice none 0 0,hS.step 6 (valsT (.slice none 0 0) []) (Off.refl _ _) (Vals.nil _ _ _) (fun b hb=>(own_none hb).elim),upd_o (by decide) rfl,upd_o (by decide) rfl,upd_o (by decide) rfl,upd_o (by decide) rfl,upd_o (by decide) t4,upd_same _ _ _,fun q hq=>by omega⟩
  case round=>
   clear hS;obtain⟨i,hi,rfl,U,aO,cO,rv_,hS,e0,e2,e1,e3,u4,u6,ur⟩:=hrel;have u1:=e1.trans t1
   have w1:IntKind.i64.wrap ((i:Int)+1)=(i:Int)+1:=by rw[IntKind.wrap_i64];omega
   have kp:=(hS.box u1).at 0 rfl
   by_cases hlt:i<m
   ·have hi0:(0:Int)≤(i:Int):=by omega
    have hi1:(i:Int)<(m:Int):=by omega
    obtain⟨b,a3,c3,rfl,hg⟩:=HRA.out i hlt;have HG:=Lib.hid hg;clear hg
    go_upto_region 5 with fail
    clear kp;replace hS:=hS.drew
    refine wp_schH (S:=fun w'=>w'.cell? ⟨gP,0,none⟩=some (.slice (some ⟨b,0,none⟩) m cA)∧w'.cell? ⟨b,i,none⟩=some (.slice a3 n c3)) (hc:=by as_aux_lemma=>kernel_rfl) (.p 0 (.p 3 (.p 4 (.p 5 (.p 6 (.p 7 (.b (.c 1 (.c 2 (.c 8 (.c 9 (.c 10 (.p 11 (.c 12 .e))))))) (.c 2 (.b (.c 1 (.c 8 (.c 9 (.c 10 (.p 11 (.c 12 .e)))))) (.c 8 (.b (.c 1 (.c 9 (.c 10 (.p 11 (.c 12 .e))))) (.c 9 (.c 1 (.c 10 (.p 11 (.c 12 .e)))))))))))))))) [3,1,4] fun zA WD hA aq=>?_
    simp only[←aq.out] at hS
    clear aq
    refine⟨⟨(hS.box (g:=gP) (i:=1) (cs:= [.slice (some ⟨b,0,none⟩) m cA,.slice aB m cB,.slice aC n cC]) (by first|exact u1|exact upd_o (by omega) u1|exact upd_o (by omega) (upd_o (by omega) u1)|exact upd_o (by omega) (upd_o (by omega) (upd_o (by omega) u1))|exact upd_o (by omega) (upd_o (by omega) (upd_o (by omega) (upd_o (by omega) u1))))).at 0 rfl,(HG.out _ hS.acc).1⟩,fun hS0=>?_⟩
    repeat' first
     |((with_reducible refine isP ?_);refine tkO ?_)
     |(with_reducible refine brO ?_ ?_)
     |(
      with_reducible refine isC (i:=1) ?_
      first|refine ldC (i:=1) ((hS.box u4).at 0 rfl) ⟨(hS.box (g:=gP) (i:=1) (cs:= [.slice (some ⟨b,0,none⟩) m cA,.slice aB m cB,.slice aC n cC]) (by first|exact u1|exact upd_o (by omega) u1|exact upd_o (by omega) (upd_o (by omega) u1)|exact upd_o (by omega) (upd_o (by omega) (upd_o (by omega) u1))|exact upd_o (by omega) (upd_o (by omega) (upd_o (by omega) (upd_o (by omega) u1))))).at 0 rfl,(HG.out _ hS.acc).1⟩ ?_|refine ldC (i:=1) ((hS.box (upd_o (by omega) u4)).at 0 rfl) ⟨(hS.box (g:=gP) (i:=1) (cs:= [.slice (some ⟨b,0,none⟩) m cA,.slice aB m cB,.slice aC n cC]) (by first|exact u1|exact upd_o (by omega) u1|exact upd_o (by omega) (upd_o (by omega) u1)|exact upd_o (by omega) (upd_o (by omega) (upd_o (by omega) u1))|exact upd_o (by omega) (upd_o (by omega) (upd_o (by omega) (upd_o (by omega) u1))))).at 0 rfl,(HG.out _ hS.acc).1⟩ ?_|refine ldC (i:=1) ((hS.box (upd_o (by omega) (upd_o (by omega) u4))).at 0 rfl) ⟨(hS.box (g:=gP) (i:=1) (cs:= [.slice (some ⟨b,0,none⟩) m cA,.slice aB m cB,.slice aC n cC]) (by first|exact u1|exact upd_o (by omega) u1|exact upd_o (by omega) (upd_o (by omega) u1)|exact upd_o (by omega) (upd_o (by omega) (upd_o (by omega) u1))|exact upd_o (by omega) (upd_o (by omega) (upd_o (by omega) (upd_o (by omega) u1))))).at 0 rfl,(HG.out _ hS.acc).1⟩ ?_)
     |(
      with_reducible refine isC (i:=2) ?_
      refine liO (i:=2) (k:=0) (l:= []) (by simp) rfl rfl fun _ _ hr hg hb=>?_
      replace hS:=hS.overlit (8+2*i) hr hg hb;clear hr hg hb
      refine⟨⟨(hS.box (g:=gP) (i:=1) (cs:= [.slice (some ⟨b,0,none⟩) m cA,.slice aB m cB,.slice aC n cC]) (by first|exact u1|exact upd_o (by omega) u1|exact upd_o (by omega) (upd_o (by omega) u1)|exact upd_o (by omega) (upd_o (by omega) (upd_o (by omega) u1))|exact upd_o (by omega) (upd_o (by omega) (upd_o (by omega) (upd_o (by omega) u1))))).at 0 rfl,(HG.out _ hS.acc).1⟩,?_⟩)
     |(
      with_reducible refine isC (i:=8) ?_
      refine apR (i:=8) (x:=8+2*i) (k:=n) hS (upd_same _ _ _) (HG.out _ hS.acc).2 (Nat.zero_add _) (by omega) fun aR cR _ hz _=>?_
      replace hS:=hz;clear hz
      refine⟨⟨(hS.box (g:=gP) (i:=1) (cs:= [.slice (some ⟨b,0,none⟩) m cA,.slice aB m cB,.slice aC n cC]) (by first|exact u1|exact upd_o (by omega) u1|exact upd_o (by omega) (upd_o (by omega) u1)|exact upd_o (by omega) (upd_o (by omega) (upd_o (by omega) u1))|exact upd_o (by omega) (upd_o (by omega) (upd_o (by omega) (upd_o (by omega) u1))))).at 0 rfl,(HG.out _ hS.acc).1⟩,?_⟩)
     |(
      with_reducible refine isC (i:=9) ?_
      refine liV (i:=9) (k:=1) (l:= [.slice aR n cR]) (by simp) rfl fun _ _ hr hg hb=>?_
      replace hS:=hS.below hb;have hlitV:=hr;clear hr hg hb
      refine⟨⟨(hS.box (g:=gP) (i:=1) (cs:= [.slice (some ⟨b,0,none⟩) m cA,.slice aB m cB,.slice aC n cC]) (by first|exact u1|exact upd_o (by omega) u1|exact upd_o (by omega) (upd_o (by omega) u1)|exact upd_o (by omega) (upd_o (by omega) (upd_o (by omega) u1))|exact upd_o (by omega) (upd_o (by omega) (upd_o (by omega) (upd_o (by omega) u1))))).at 0 rfl,(HG.out _ hS.acc).1⟩,?_⟩)
     |(
      with_reducible refine isC (i:=10) ?_
      refine apV (i:=10) (x:=6) (k:=i+1) hS (upd_o (by omega) (upd_o (by omega) u6)) hlitV (cell_one _ _ _) (by simp) (by omega) fun aV cV _ hz _=>?_
      replace hS:=hz;clear hz hlitV
      refine⟨⟨(hS.box (g:=gP) (i:=1) (cs:= [.slice (some ⟨b,0,none⟩) m cA,.slice aB m cB,.slice aC n cC]) (by first|exact u1|exact upd_o (by omega) u1|exact upd_o (by omega) (upd_o (by omega) u1)|exact upd_o (by omega) (upd_o (by omega) (upd_o (by omega) u1))|exact upd_o (by omega) (upd_o (by omega) (upd_o (by omega) (upd_o (by omega) u1))))).at 0 rfl,(HG.out _ hS.acc).1⟩,?_⟩)
     |(
      with_reducible refine isC (i:=12) ?_
      refine stB (i:=12) (x:=4) (j:=0) hS (upd_o (by omega) (upd_o (by omega) (upd_o (by omega) u4))) rfl fun ws hz=>?_
      replace hS:=hz;clear hz
      refine⟨⟨(hS.box (g:=gP) (i:=1) (cs:= [.slice (some ⟨b,0,none⟩) m cA,.slice aB m cB,.slice aC n cC]) (by first|exact u1|exact upd_o (by omega) u1|exact upd_o (by omega) (upd_o (by omega) u1)|exact upd_o (by omega) (upd_o (by omega) (upd_o (by omega) u1))|exact upd_o (by omega) (upd_o (by omega) (upd_o (by omega) (upd_o (by omega) u1))))).at 0 rfl,(HG.out _ hS.acc).1⟩,?_⟩)
    all_goals(
     refine enP hA ?_
     clear hA
     simp only[List.set,List.nil_append] at hS
     rw[upd_upd,←vals_ap1] at hS
     obtain⟨U2,hS,hk,h8,h6,h4⟩:=hS.gen3 (by omega) (by omega) (by omega)
     go_wp2_with fail
     go_roundw
     case rel=>exact⟨i+1,by omega,by go_num,U2,aV,cV,ap1 i rv_ (.slice aR n cR),hS,(hk 0 (by omega) (by omega) (by omega)).trans e0,(hk 2 (by omega) (by omega) (by omega)).trans e2,(hk 1 (by omega) (by omega) (by omega)).trans e1,(hk 3 (by omega) (by omega) (by omega)).trans e3,h4,h6,fun q hq=>by
      unfold ap1
      by_cases e:q<i
      ·rw[if_pos e];exact(hk _ (by omega) (by omega) (by omega)).trans (ur q e)
      ·obtain rfl:q=i:=by omega
       rw[if_neg e];exact h8⟩
     case measure=>simp[intOf];omega)
   ·obtain rfl:m=i:=by omega
    have hi1: ¬(m:Int)<(m:Int):=by omega
    have kO:=hS.box u4;have kR:=hS.box (e3.trans t3);have x0:=kO.at 0 rfl;have x1:=kO.at 1 rfl;have x2:=kO.at 2 rfl;have y0:=kR.at 0 rfl;have y1:=kR.at 1 rfl;have y2:=kR.at 2 rfl;have f0:=kR.fr 0 rfl;have f1:=kR.fr 1 rfl;have f2:=kR.fr 2 rfl;clear kO kR
    go_wp2_with fail
    have hS2:=hS.set3 (e3.trans t3) (.slice aO m cO) (.slice aX m cX) (.slice aY n cY);have kR:=hS2.box (upd_same _ _ _);have z0:=kR.at 0 rfl;have z1:=kR.at 1 rfl;have z2:=kR.at 2 rfl
    refine bodyPost_ret (v:=.agg #[.slice aO m cO,.slice aX m cX,.slice aY n cY]) (by simp[results,Tryz.results27,go_sem,z0,z1,z2]) rfl ?_
    exact⟨aO,cO,aX,cX,aY,cY,rfl,rv_,_,hS2.half,upd_o (by decide) (e0.trans t0),upd_o (by decide) (e2.trans t2),upd_o (by decide) u6,fun q hq=>upd_o (by omega) ((congrArg U (by omega:2*(4+q)=8+2*q)).trans (ur q hq))⟩
end Go.Proofs.YtinmmkcjjlconaaGreat
namespace Go.Proofs.YtinmmkcjjlconaaGreat
open Go.RowKit W
open Pl (nb)
open Lp (S Q Cert Out Feas grow grow_lt swp)
theorem lexi_fits (zs:List Int) (m n:Nat) (hm:m≤6) (hn:n≤6) (z:Nat→Rat) (hz: ∃E G,0<E∧E≤G∧G≤grow (n+1) 204∧∀i,Q E G (z i)):
  (∀j,j<n→Fits (m+1+j) n (Lp.lexA m (plA zs n) (plC zs m n)) (Lp.lexB m (plB zs n) (S n (fun c=>plC zs m n c*z c)) z) (Lp.lexC j)∧FitR (m+1+j) n (Lp.lexA m (plA zs n) (plC zs m n)) (Lp.lexB m (plB zs n) (S n (fun c=>plC zs m n c*z c)) z) (Lp.lexC j))∧
   (∀j,j<n→Sz (z j) 40000)∧Sz (S n (fun c=>plC zs m n c*z c)) 40000:=by
 obtain⟨E,G,hE,hEG,hG,hz⟩:=hz
 have hp:=Nat.pow_le_pow_right (n:=2) (by decide) (show n+1≤7 by omega)
 have hgr:=grow_lt (n+1) 204 8 (by decide)
 have hGt:1224*G<2^(11+2^(n+1)*(8+1)):=by
  rw[Nat.pow_add]
  exact Nat.mul_lt_mul'' (by decide) (by omega)
 have ht:11+2^(n+1)*(8+1)≤1163:=by omega
 generalize 11+2^(n+1)*(8+1)=t at*
 have ht2:7+t+2^(n+1)*(t+1)≤320000:=by
  have:=Nat.mul_le_mul hp (show t+1≤1164 by omega)
  omega
 refine⟨fun j hj=>?_,fun j hj=>?_,?_⟩
 ·have hs:=lex_small (j:=j) (plan_small zs m n) hn hE hEG hz hGt
  exact⟨hs.fits2 (by omega) (by omega) ht2,hs.fitR2 (by omega) ht2⟩
 ·exact Sz_Q hE (hz j) hEG (Nat.lt_of_le_of_lt (Nat.le_mul_of_pos_left G (by decide)) hGt) (by omega)
 ·have hq:=Lp.Q_dot (fun c hc=>(plan_small zs m n).c c hc) (fun c _=>hz c) n (Nat.le_refl _)
  have h6:n*(204*G)≤1224*G:=by
   rw[←Nat.mul_assoc]
   exact Nat.mul_le_mul_right _ (by omega)
  exact Sz_Q (Nat.mul_pos (by decide) hE) (hq.mono h6) (Nat.mul_le_mul (by decide) hEG) hGt (by omega)
structure Turn (m n:Nat) (A:Nat→Nat→Rat) (B C:Nat→Rat) (A':Nat→Nat→Rat) (B':Nat→Rat):Prop where
  out: ∀k,Out m n A B C k→Out m n A' B' C k
  cert: ∀x y v,Cert m n A B C x y v→∃x' y',Cert m n A' B' C x' y' v
  feas: ∀x,Feas m n A' B' x↔Feas m n A B x
theorem Turn.refl(m n:Nat)(A:Nat→Nat→Rat)(B C:Nat→Rat):Turn m n A B C A B:=⟨fun _ h=>h,fun x y _ h=>⟨x,y,h⟩,fun _=>Iff.rfl⟩
theorem turn_of {m n:Nat} {A:Nat→Nat→Rat} {B C:Nat→Rat} {f:Rat} (hf:0<f) {a b:Nat} (ha:a<m) (hb:b<m):
  Turn m n A B C (upd (fun i=>A (swp a b i)) a (fun j=>A b j*f)) (upd (fun i=>B (swp a b i)) a (B b*f)):=by
 have e:swp a b a=b:=by unfold swp;rw[if_pos rfl]
 have e1:(upd (fun i=>A (swp a b i)) a (fun j=>A b j*f))=upd (fun i=>A (swp a b i)) a (fun j=>(fun i=>A (swp a b i)) a j*f):=by
  show _=upd (fun i=>A (swp a b i)) a (fun j=>A (swp a b a) j*f)
  rw[e]
 have e2:(upd (fun i=>B (swp a b i)) a (B b*f))=upd (fun i=>B (swp a b i)) a ((fun i=>B (swp a b i)) a*f):=by
  show _=upd (fun i=>B (swp a b i)) a (B (swp a b a)*f)
  rw[e]
 rw[e1,e2]
 exact⟨fun k h=>out_r hf a (Lp.out_rows ha hb h),fun x y v h=>⟨_,_,cert_r hf a (Lp.cert_rows ha hb h)⟩,fun x=>(feas_r hf a).trans (Lp.feas_rows ha hb)⟩
theorem turn_small (zs:List Int) (m n:Nat) {a b:Nat} (hb:b<m) {y:Int} (h0:0≤y) (h1:y≤255) (hs: ∀i,i<m→swp a b i<m):
  Small m n (upd (fun i=>plA zs n (swp a b i)) a (fun j=>plA zs n b j*((1+y:Int):Rat))) (upd (fun i=>plB zs n (swp a b i)) a (plB zs n b*((1+y:Int):Rat))) (plC zs m n) 12 52224 16:=by
 have hp:=plan_small zs m n
 have hq:Q 1 256 ((1+y:Int):Rat):=⟨1+y,by simp,by omega⟩
 refine⟨by decide,by decide,by decide,fun i j hi hj=>?_,fun i hi=>?_,fun j hj=>(hp.c j hj).mono (by decide)⟩
 ·unfold upd
  split
  ·exact(hp.a b j hb hj).mul hq
  ·exact(hp.a _ j (hs i hi) hj).mono (by decide)
 ·unfold upd
  split
  ·exact(hp.b b hb).mul hq
  ·exact(hp.b _ (hs i hi)).mono (by decide)
theorem turn_fits (zs:List Int) (m n:Nat) (hm:m≤6) (hn:n≤6) {a b:Nat} (ha:a<m) (hb:b<m) {y:Int} (h0:0≤y) (h1:y≤255):
  Fits m n (upd (fun i=>plA zs n (swp a b i)) a (fun j=>plA zs n b j*((1+y:Int):Rat))) (upd (fun i=>plB zs n (swp a b i)) a (plB zs n b*((1+y:Int):Rat))) (plC zs m n):=by
 refine(turn_small zs m n hb h0 h1 (fun i hi=>Lp.swp_lt ha hb hi)).fits (by omega) (by omega) ?_
 have:=Nat.pow_le_pow_right (n:=2) (by decide) hm
 omega
end Go.Proofs.YtinmmkcjjlconaaGreat
