/- Parts of the proofs about this seat's statements. -/
import Derived.Test.YtinmmkcjjlconaaGreatL1r
import Derived.Test.YtinmmkcjjlconaaGreatRows
import Derived.ProofKit
import Derived.SizedLaws
import Derived.Lib.SmallJoins
import Derived.ChangeSlices
import Derived.Deep.Slices
import Derived.Deep.Fields
import Derived.ChangeSame
import Derived.MakeChecks
set_option maxRecDepth 100000
set_option maxHeartbeats 16000000
namespace Go.Proofs.YtinmmkcjjlconaaGreat
open Go.ChangeShapes Go.WideShapes Go.ChangeAt Go.RowKit Go.Joins
theorem own:ownKnob Tryz.prog.godebug=none:=by kernel_rfl
theorem laidOut:laidOutB Tryz.prog=true:=by kernel_rfl
theorem below_trodAll {H:Type} {enc:TypeId×Value→H} {P:Program} (hl:laidOutB P=true) {W W':World} (hb:Below W.heap.size W W'):
    ∀ {ts:List TypeId} {vs:List Value} {ds:List (DataW H)} {ps:List MemPlace},(ts.all fun t=>P.readableRec t&&decide (t<P.types.size))=true→(∀x∈ps,x.block<W.heap.size)→
      DataW.TrodAll enc P W 0 (fun _=>true) true ts vs ds ps→DataW.TrodAll enc P W' 0 (fun b=>decide (b<W.heap.size)) true ts vs ds ps
  | [],_,_,_,_,_,h=>by
    obtain⟨rfl,rfl,rfl⟩:=trodAll_nil h
    exact trodAll_mk0
  | t::ts,_,_,_,ha,hlt,h=>by
    obtain⟨v,vs',d,ds',p,q,rfl,rfl,rfl,h1,h2⟩:=trodAll_cons h
    simp only[List.all_cons,Bool.and_eq_true,decide_eq_true_eq] at ha
    exact trodAll_cons_mk (Below.trod hl ha.1.1 ha.1.2 h1 hb (fun x hx=>hlt x (List.mem_append.2 (.inl hx)))) (below_trodAll hl hb ha.2 (fun x hx=>hlt x (List.mem_append.2 (.inr hx))) h2)
theorem law_post {H:Type} {enc:TypeId×Value→H} {fn:Func} {s:ChangeSpec} {W W':World} {args:Array Value} {ds gs:List (DataW H)} {before:List MemPlace}
  (hv:s.vars= []) (hW:DataW.Whole enc Tryz.prog fn.params.toList s.vars false W args.toList ds gs before)
  (hr:fn.resultTypes= #[4]) (hs:s.fn H (ds++ [])= {results:= [.lit (.bool true)],args:=ds})
  (ha:(fn.params.toList.all fun t=>Tryz.prog.readableRec t&&decide (t<Tryz.prog.types.size))=true) (hb:Below W.heap.size W W'):
  s.post enc Tryz.prog fn false true false false W args (.bool true) W':=by
 have hW':=hW;obtain⟨p,q,hA,hV,rfl,hfz,hnd⟩:=hW;rw[hv] at hV;obtain⟨rfl,rfl⟩:=trodVars_none hV
 refine⟨ds, [],p++ [], [],p, [],hW',?_,?_,?_,hb.frame _,fun h=>by cases h⟩
 ·rw[hs,hr];exact trodAll_mk1 (shut_bool Tryz.underlying4 _)
 ·rw[hs];exact below_trodAll laidOut hb ha (fun x hx=>hW'.lt x (by simpa using hx)) hA
 ·rw[hs,hv];rfl
section
variable {H:Type} {enc:TypeId×Value→H} {W:World} {base:Nat}
open Go.Deep
theorem plain_addr {w:World} {a:Addr} {v:Value} (h:w.cell? (a.add 0)=some v): ∃b off,a=⟨b,off,none⟩:=by
 obtain⟨b,off,spot⟩:=a
 have hs:spot=none:=by simpa [Addr.add] using World.cell?_spot h
 subst hs
 exact⟨b,off,rfl⟩
theorem plain_add(b off k:Nat):(⟨b,off,none⟩:Addr).add k=⟨b,off+k,none⟩:=add_plain b off k
theorem intsK_of {P:Program} {q:IntKind} {t e:TypeId} {v:Value} {f:Nat} {y:DataW H×List MemPlace} (ht:P.underlying t=some (.slice e)) (he:P.underlying e=some (.int q)) (hc:P.cellsOf e=1)
  (hf:DataW.trod enc P W 0 (fun _=>true) true f t [v]=some y): ∃zs,IntsK q W v zs:=by
 rcases open_ints ht he hc hf with⟨hcs,hx⟩|⟨a,len',cap',zs,hcs,_,hl,hm,hz,hx,hcell,hwz⟩
 ·simp at hcs
  subst hcs
  exact⟨[],none,0,rfl,by simp,by simp,by simp,by simp⟩
 ·simp at hcs
  subst hcs
  simp only[if_true] at hz
  unfold maxLen at hm
  have hlen:(zs.take len').length=len':=by simp;omega
  refine⟨zs.take len',some a,cap',by rw[hlen],by omega,by omega,fun z hz=>hwz z (List.mem_of_mem_take hz),fun h0=>?_⟩
  have h00:0<zs.length:=by omega
  obtain⟨b,off,rfl⟩:=plain_addr (hcell 0 h00)
  refine⟨b,off,rfl,?_,fun i hi=>?_⟩
  ·have:=World.block_lt_of_cell? W _ (hcell 0 h00)
   rwa [plain_add] at this
  ·have:=hcell i (by omega)
   rw[plain_add] at this;rw[this]
   have hi':i<len':=by omega
   simp[hi']
theorem open_plan0 {P:Program} {t tu tl ti:TypeId} {f0 f1 f2:Field} {v:Value} {d:DataW H} {p:List MemPlace} (ht:P.underlying t=some (.struct #[f0,f1,f2])) (hone:oneCellFields P #[f0,f1,f2]=true) (hC:P.cellsOf t=3)
  (e0:f0.type=tu) (e1:f1.type=tu) (e2:f2.type=tl) (hu:P.underlying tu=some (.int .u8)) (hl:P.underlying tl=some (.slice ti)) (hi:P.underlying ti=some (.int .i16)) (hc:P.cellsOf ti=1)
  (hv:Value.okWide P W .any base t v) (h:DataW.Trod enc P W 0 (fun _=>true) true t v d p):
  ∃(r c:Int) (vL:Value) (zs:List Int),v= .agg #[.int .u8 r,.int .u8 c,vL]∧(0≤r∧r≤255)∧(0≤c∧c≤255)∧IntsK .i16 W vL zs:=by
 obtain⟨c0,c1,c2,y0,y1,y2,n,rfl,rfl,rfl,h0,h1,h2⟩:=open_agg3 ht hone hC hv h;rw[e0] at h0;rw[e1] at h1;rw[e2] at h2;obtain⟨a,g0,_,w0⟩:=DataW.trod_int hu h0;obtain⟨b,g1,_,w1⟩:=DataW.trod_int hu h1
 simp at g0 g1
 subst g0 g1;obtain⟨zs,hz⟩:=intsK_of hl hi hc h2
 exact⟨a,b,c2,zs,rfl,bounds_u8 w0,bounds_u8 w1,hz⟩
theorem open_arr2 {P:Program} {t e:TypeId} {v:Value} {d:DataW H} {p:List MemPlace} (ht:P.underlying t=some (.array 2 e)) (hc:P.cellsOf t=2) (hc1:P.cellsOf e=1)
  (hv:Value.okWide P W .any base t v) (h:DataW.Trod enc P W 0 (fun _=>true) true t v d p): ∃(v0 v1:Value) (f0 f1:Nat) (y0 y1:DataW H×List MemPlace),v= .agg #[v0,v1]∧DataW.trod enc P W 0 (fun _=>true) true f0 e [v0]=some y0∧DataW.trod enc P W 0 (fun _=>true) true f1 e [v1]=some y1:=by
 simp only[Value.okWide,ht] at hv
 obtain⟨cs,rfl,hsz,_⟩:=hv;obtain⟨fuel,hf⟩:=h;obtain⟨xs,m,_,_,hlen,_,hel⟩:=DataW.trod_array ht hf
 have hl:cs.toList.length=2:=by simpa [hc] using hsz
 obtain⟨l⟩:=cs
 match l,hl with
 | [c0,c1],_=>
  have h0:=hel 0 (by decide)
  have h1:=hel 1 (by decide)
  rw[hc1] at h0 h1
  rw[List.getElem?_eq_getElem (by omega)] at h0 h1
  exact⟨c0,c1,_,_,_,_,rfl,by simpa [Value.cells] using h0,by simpa [Value.cells] using h1⟩
theorem open_two0 {P:Program} {t e:TypeId} {v:Value} {d:DataW H} {p:List MemPlace} (ht:P.underlying t=some (.array 2 e)) (hc:P.cellsOf t=2) (hc1:P.cellsOf e=1) (he:P.underlying e=some (.int .u8))
  (hv:Value.okWide P W .any base t v) (h:DataW.Trod enc P W 0 (fun _=>true) true t v d p): ∃x y:Int,v= .agg #[.int .u8 x,.int .u8 y]∧(0≤x∧x≤255)∧(0≤y∧y≤255):=by
 obtain⟨c0,c1,f0,f1,y0,y1,rfl,h0,h1⟩:=open_arr2 ht hc hc1 hv h;obtain⟨x,e0,_,w0⟩:=DataW.trod_int he h0;obtain⟨y,e1,_,w1⟩:=DataW.trod_int he h1
 simp at e0 e1
 subst e0 e1
 exact⟨x,y,rfl,bounds_u8 w0,bounds_u8 w1⟩
theorem open_plan {v:Value} {d:DataW H} {p:List MemPlace} (hv:Value.okWide Tryz.prog W .any base 24 v) (h:DataW.Trod enc Tryz.prog W 0 (fun _=>true) true 24 v d p):
  ∃(r c:Int) (vL:Value) (zs:List Int),v= .agg #[.int .u8 r,.int .u8 c,vL]∧(0≤r∧r≤255)∧(0≤c∧c≤255)∧IntsK .i16 W vL zs:=
 open_plan0 Tryz.underlying24 (by kernel_rfl) (by kernel_rfl) rfl rfl rfl Tryz.underlying5 Tryz.underlying22 Tryz.underlying100 (by kernel_rfl) hv h
theorem open_a2 {v:Value} {d:DataW H} {p:List MemPlace} (hv:Value.okWide Tryz.prog W .any base 59 v) (h:DataW.Trod enc Tryz.prog W 0 (fun _=>true) true 59 v d p):
  ∃x y:Int,v= .agg #[.int .u8 x,.int .u8 y]∧(0≤x∧x≤255)∧(0≤y∧y≤255):=
 open_two0 Tryz.underlying59 (by kernel_rfl) (by kernel_rfl) Tryz.underlying5 hv h
end
end Go.Proofs.YtinmmkcjjlconaaGreat
namespace Go.Proofs.YtinmmkcjjlconaaGreat
open Go.RowKit W
open Pl (nb bv bv_nb nb_size_zero)
open Lp (S S_succ)
structure EqRes (m k:Nat) (F G:Nat→Rat) (e:Ending):Prop where
  ex: ∃r:Bool,e= .returned (.bool r)∧(r=true↔m=k∧∀i,i<m→F i=G i)
theorem nb_list_inj {a b:Nat} (h:(nb a).toList=(nb b).toList):a=b:=by
 have e:nb a=nb b:=by
  have h1:(nb a).data.toList=(nb b).data.toList:=by simpa only[ByteArray.toList_eq] using h
  cases ha:nb a;cases hb:nb b
  rw[ha,hb] at h1
  simp at h1
  rw[h1]
 rw[←bv_nb a,←bv_nb b,e]
theorem uneq {p q:Rat} (h:p≠q):(decide (p.num<0)==decide (q.num<0))=false∨((nb p.num.natAbs).toList==(nb q.num.natAbs).toList)=false∨((nb p.den).toList==(nb q.den).toList)=false:=by
 apply Classical.byContradiction
 intro hc
 apply h
 have h1:decide (p.num<0)=decide (q.num<0):=Classical.byContradiction fun h=>hc (.inl (by simpa using h))
 have h2:p.num.natAbs=q.num.natAbs:=Classical.byContradiction fun h=>hc (.inr (.inl (by simpa using fun e=>h (nb_list_inj e))))
 have h3:p.den=q.den:=Classical.byContradiction fun h=>hc (.inr (.inr (by simpa using fun e=>h (nb_list_inj e))))
 rw[decide_eq_decide] at h1
 exact Rat.ext (by omega) h3
theorem equal_any (a b:Option Addr) (m k ca cb:Nat) (F G:Nat→Rat) (w:World) (h1:SlR w (.slice a m ca) m F) (h2:SlR w (.slice b k cb) k G) (hm:m≤100000):
  Calls Tryz.prog 32 #[.slice a m ca,.slice b k cb] w fun e w'=>EqRes m k F G e∧Below w.heap.size w w':=by
 have HF:Hid (∀W,Below w.heap.size w W→∀i,i<m→∃g,a=some ⟨g,0,none⟩∧W.cell? ⟨g,i*3,none⟩=some (.bool (decide ((F i).num<0)))∧W.cell? ⟨g,i*3+1,none⟩=some (.string (nb (F i).num.natAbs))∧W.cell? ⟨g,i*3+1+1,none⟩=some (.string (nb (F i).den))):=Lib.hid (fun W hb i hi=>by
  obtain⟨a',c',e,h⟩:=h1.below hb
  obtain⟨rfl, -⟩:a=a'∧ca=c':=by simpa using e
  obtain⟨g,e2,hr⟩:=h (by omega)
  exact⟨g,e2,hr.2 i hi⟩)
 have HG:Hid (∀W,Below w.heap.size w W→∀i,i<k→∃g,b=some ⟨g,0,none⟩∧W.cell? ⟨g,i*3,none⟩=some (.bool (decide ((G i).num<0)))∧W.cell? ⟨g,i*3+1,none⟩=some (.string (nb (G i).num.natAbs))∧W.cell? ⟨g,i*3+1+1,none⟩=some (.string (nb (G i).den))):=Lib.hid (fun W hb i hi=>by
  obtain⟨a',c',e,h⟩:=h2.below hb
  obtain⟨rfl, -⟩:b=a'∧cb=c':=by simpa using e
  obtain⟨g,e2,hr⟩:=h (by omega)
  exact⟨g,e2,hr.2 i hi⟩)
 clear h1 h2
 by_cases hmk:m=k
 ·subst hmk
  go_enter Tryz.func32,Tryz.ntmps32
  have ag:=Below.refl w.heap.size w
  go_wp2_with fail
  go_loopw [5] (fun s wr=> ∃i:Nat,i≤m∧s= .int .i64 (i:Int)∧(∀x,x<i→F x=G x)∧Below w.heap.size w wr) (fun s _=>m-(intOf s).toNat)
  case atStart=>exact⟨0,by omega,rfl,fun x hx=>by omega,ag⟩
  case round=>
   clear ag;obtain⟨i,hi,rfl,hall,ag⟩:=hrel;have HAll:=Lib.hid hall;clear hall
   by_cases hlt:i<m
   ·have hi0:(0:Int)≤(i:Int):=by omega
    have hi1:(i:Int)<(m:Int):=by omega
    have HFi:=Lib.hid (fun W hb=>HF.out W hb i hlt);have HGi:=Lib.hid (fun W hb=>HG.out W hb i hlt);obtain⟨g,rfl,_⟩:=HFi.out _ ag;obtain⟨g',rfl,_⟩:=HGi.out _ ag
    have HFc:Hid (∀W,Below w.heap.size w W→W.cell? ⟨g,i*3,none⟩=some (.bool (decide ((F i).num<0)))∧W.cell? ⟨g,i*3+1,none⟩=some (.string (nb (F i).num.natAbs))∧W.cell? ⟨g,i*3+1+1,none⟩=some (.string (nb (F i).den))):=Lib.hid (fun W hb=>by
     obtain⟨g2,e,h⟩:=HFi.out W hb
     obtain rfl:g=g2:=by simpa using e
     exact h)
    have HGc:Hid (∀W,Below w.heap.size w W→W.cell? ⟨g',i*3,none⟩=some (.bool (decide ((G i).num<0)))∧W.cell? ⟨g',i*3+1,none⟩=some (.string (nb (G i).num.natAbs))∧W.cell? ⟨g',i*3+1+1,none⟩=some (.string (nb (G i).den))):=Lib.hid (fun W hb=>by
     obtain⟨g2,e,h⟩:=HGi.out W hb
     obtain rfl:g'=g2:=by simpa using e
     exact h)
    clear HFi HGi
    by_cases heq:F i=G i
    ·have HE:=Lib.hid heq
     rw[←heq] at HGc;clear heq;generalize hx:F i=x at*;have HX:=Lib.hid hx;clear hx
     go_upto_region 6 with fail
     replace ag:=ag.drew
     refine wp_schH (S:=(fun w'=>w'.cell? ⟨g,i*3,none⟩=some (.bool (decide (x.num<0)))∧w'.cell? ⟨g,i*3+1,none⟩=some (.string (nb x.num.natAbs))∧w'.cell? ⟨g,i*3+1+1,none⟩=some (.string (nb x.den))∧w'.cell? ⟨g',i*3,none⟩=some (.bool (decide (x.num<0)))∧w'.cell? ⟨g',i*3+1,none⟩=some (.string (nb x.num.natAbs))∧w'.cell? ⟨g',i*3+1+1,none⟩=some (.string (nb x.den)))) (ps 0 9 .e) [0,5,1] fun A WD hA aq=>?_
     simp only[←aq.out] at ag
     clear aq
     refine⟨?_,fun ap=>?_⟩
     ·try dsimp only
      with_reducible exact⟨(HFc.out _ ag).1,(HFc.out _ ag).2.1,(HFc.out _ ag).2.2,(HGc.out _ ag).1,(HGc.out _ ag).2.1,(HGc.out _ ag).2.2⟩
     repeat(refine isP ?_;refine tkO ?_)
     refine enO hA ?_
     clear hA
     go_wp2_with fail
     go_roundw
     case rel=>exact⟨i+1,by omega,by go_num,fun y hy=>by
      by_cases e:y=i
      ·subst e;exact HX.out.trans HE.out
      ·exact HAll.out y (by omega),ag⟩
     case measure=>simp[intOf];omega
    ·have HNE:=Lib.hid heq
     have hu:=uneq heq;clear heq;generalize decide ((F i).num<0)=p0 at*;generalize decide ((G i).num<0)=q0 at*;generalize nb (F i).num.natAbs=p1 at*;generalize nb (G i).num.natAbs=q1 at*;generalize nb (F i).den=p2 at*;generalize nb (G i).den=q2 at*
     rcases hu with hu|hu|hu<;>(
      go_upto_region 6 with fail
      replace ag:=ag.drew
      refine wp_schH (S:=(fun w'=>w'.cell? ⟨g,i*3,none⟩=some (.bool p0)∧w'.cell? ⟨g,i*3+1,none⟩=some (.string p1)∧w'.cell? ⟨g,i*3+1+1,none⟩=some (.string p2)∧w'.cell? ⟨g',i*3,none⟩=some (.bool q0)∧w'.cell? ⟨g',i*3+1,none⟩=some (.string q1)∧w'.cell? ⟨g',i*3+1+1,none⟩=some (.string q2))) (ps 0 9 .e) [0,5,1] fun A WD hA aq=>?_
      simp only[←aq.out] at ag
      clear aq
      refine⟨?_,fun ap=>?_⟩
      ·try dsimp only
       with_reducible exact⟨(HFc.out _ ag).1,(HFc.out _ ag).2.1,(HFc.out _ ag).2.2,(HGc.out _ ag).1,(HGc.out _ ag).2.1,(HGc.out _ ag).2.2⟩
      repeat(refine isP ?_;refine tkO ?_)
      refine enO hA ?_
      clear hA
      go_wp2_with fail
      go_ret
      exact⟨⟨⟨false,rfl,⟨fun h=>(by cases h),fun h=>absurd (h.2 i hlt) HNE.out⟩⟩⟩,ag⟩)
   ·obtain rfl:i=m:=by omega
    go_wp2_with fail
    go_ret
    exact⟨⟨⟨true,rfl,⟨fun _=>⟨rfl,HAll.out⟩,fun _=>rfl⟩⟩⟩,ag⟩
 ·have hne: ¬(m:Int)=(k:Int):=by omega
  go_enter Tryz.func32,Tryz.ntmps32
  have ag:=Below.refl w.heap.size w
  go_wp2_with fail
  go_ret
  exact⟨⟨⟨false,rfl,⟨fun h=>(by cases h),fun h=>absurd h.1 hmk⟩⟩⟩,ag⟩
def ofL(zs:List Int)(i:Nat):Rat:=((zs.getD i 0:Int):Rat)
theorem list_any (v:Value) (zs:List Int) (w:World) (h:Vals 3 w 0 v (zs.map (Value.int .i64))) (hl:zs.length≤1000) (hz: ∀i,i<zs.length→ -1000000≤zs.getD i 0∧zs.getD i 0≤1000000):
  Calls Tryz.prog 36 #[v] w fun e w'=> ∃a c,e= .returned (.slice a zs.length c)∧Rats w' w.heap.size (.slice a zs.length c) (raws zs.length (ofL zs))∧Below w.heap.size w w':=by
 obtain⟨a,c,e,hf⟩:=h.form
 simp only[List.length_map] at e hf
 subst e
 have HI:Hid (∀W,Below w.heap.size w W→∀i,i<zs.length→∃g,a=some ⟨g,0,none⟩∧W.cell? ⟨g,i,none⟩=some (.int .i64 (zs.getD i 0))):=Lib.hid (fun W hb i hi=>by
  obtain⟨g,e,ho⟩:=hf (by omega)
  have:=(h.rowC ho).below hb
  refine⟨g,e,?_⟩
  rw[this.2 i (by simpa using hi)]
  simp[List.getD_eq_getElem?_getD,hi])
 have HO:=Lib.hid (fun W i (hi:i<zs.length)=>rof2_any (zs.getD i 0) W (by have:=(hz i hi).1;omega) (by have:=(hz i hi).2;omega))
 clear h hf hz;generalize hlen:zs.length=m at*;clear hlen
 go_enter Tryz.func36,Tryz.ntmps36
 have ag:=Below.refl w.heap.size w
 go_wp2_with fail
 go_loopw [3,8] (fun s3 s8 wr=> ∃i:Nat,i≤m∧s8= .int .i64 (i:Int)∧Rats wr w.heap.size s3 (raws i (ofL zs))∧Below w.heap.size w wr) (fun _ s8 _=>m-(intOf s8).toNat)
 case atStart=>exact⟨0,by omega,rfl,Rats.nil _ _,ag⟩
 case round=>
  clear ag;obtain⟨i,hi,rfl,hR,ag⟩:=hrel
  by_cases hlt:i<m
  ·have hi0:(0:Int)≤(i:Int):=by omega
   have hi1:(i:Int)<(m:Int):=by omega
   obtain⟨g,rfl,c0⟩:=HI.out _ ag i hlt;have HOi:=Lib.hid (fun W=>HO.out W i hlt);have HX:=Lib.hid (raws_succ i (ofL zs));unfold ofL at HX;generalize zs.getD i 0=z at*;generalize ((z:Int):Rat)=x at*
   simp only[rv] at HOi
   go_wp2_with fail
   with_reducible refine(HOi.out _).mono ?_
   rintro e wX ⟨rfl,am⟩;have ag:=ag.tr am;have hR:=hR.below am;clear am c0
   have hS:=Rats.lit (B:=0) wX (Nat.zero_le _) [⟨decide (x.num<0),nb x.num.natAbs,nb x.den⟩] (by simp)
   have hRa:=hR.alloc (.cells #[.bool (decide (x.num<0)),.string (nb x.num.natAbs),.string (nb x.den)] 33);have hacca:=ag.alloc ag.size (.cells #[.bool (decide (x.num<0)),.string (nb x.num.natAbs),.string (nb x.den)] 33)
   have hln:(raws i (ofL zs)).length+ [(⟨decide (x.num<0),nb x.num.natAbs,nb x.den⟩:Raw)].length<1000000000:=by rw[raws_len];simp;omega
   go_wp2_with (at_builtin;refine app_rats (by rfl) (by rfl) (by rfl) (by rfl) w.heap.size hRa hS hln hacca.size ?_;intro v2 w2 e1 e2 e3)
   have hR2:Rats w2 w.heap.size v2 (raws (i+1) (ofL zs)):=by
    have:=HX.out;rw[show raws (i+1) (ofL zs)=raws i (ofL zs)++ [⟨decide (x.num<0),nb x.num.natAbs,nb x.den⟩] from this]
    exact e1
   have hacc2:=hacca.grown e2 hacca.size hRa.own;clear hS hRa hR e1 e2 e3 hacca ag
   go_roundw
   case rel=>exact⟨i+1,by omega,by go_num,hR2,hacc2⟩
   case measure=>simp[intOf];omega
  ·obtain rfl:i=m:=by omega
   obtain⟨a3,c3,e3⟩:=hR.form;rw[raws_len] at e3;subst e3
   go_wp2_with fail
   go_ret
   exact⟨a3,c3,rfl,hR,ag⟩
end Go.Proofs.YtinmmkcjjlconaaGreat
namespace Go.Proofs.YtinmmkcjjlconaaGreat
open Go.RowKit W
open Pl (nb bv bv_nb nb_size_zero)
open Lp (Q grow grow_lt)
theorem nb_le {x k:Nat} (h:x<2^(8*k)):(nb x).size≤k:=by
 have h2:x<256^k:=by rw[show(256:Nat)=2^8 by decide,←Nat.pow_mul];exact h
 exact Pl.nb_size_le.2 h2
theorem Sz_Q {D H s k:Nat} {q:Rat} (hD:0<D) (hq:Q D H q) (h1:D≤H) (hs:H<2^s) (hk:s≤8*k):Sz q k:=by
 obtain⟨a,b⟩:=hq.parts hD
 have h2:2^s≤2^(8*k):=Nat.pow_le_pow_right (by decide) hk
 exact⟨nb_le (by omega),nb_le (by omega)⟩
theorem fit_of {m n D H s:Nat} {A:Nat→Nat→Rat} {B:Nat→Rat} (hD:0<D) (hH:D≤H) (ha: ∀i j,i<m→j<n→Q D H (A i j)) (hb: ∀i,i<m→Q D H (B i)) (hs:H<2^s) (hk:2^m*(s+1)≤320000):Fit m n A B:=by
 have h0:=Lp.tab0_bnd hD hH ha hb;have hg:=grow_lt m H s hs
 have hs2:s≤2^m*(s+1):=Nat.le_trans (by omega) (Nat.le_mul_of_pos_left _ (Nat.pow_pos (by decide)))
 refine⟨fun i j hi=>?_,fun i hi=>?_,fun U w i j hi hj=>?_,fun U w i hi=>?_⟩
 ·by_cases hj:j<n+m+1
  ·exact Sz_Q hD (h0.a i j hi hj) hH hs (by omega)
  ·have:Lp.mat m n A i j=0:=by unfold Lp.mat;rw[if_neg (by omega),if_neg (by omega),if_neg (by omega)]
   rw[this];exact Sz_zero.mono (by decide)
 ·exact Sz_Q hD (h0.b i hi) hH hs (by omega)
 ·obtain⟨E,hE⟩:=w.bnd h0
  exact Sz_Q hE.pos (hE.a i j hi hj) hE.le hg (by omega)
 ·obtain⟨E,hE⟩:=w.bnd h0
  exact Sz_Q hE.pos (hE.b i hi) hE.le hg (by omega)
theorem fitG_of {m n D H s E G t:Nat} {A:Nat→Nat→Rat} {B g:Nat→Rat} (hD:0<D) (hH:D≤H) (ha: ∀i j,i<m→j<n→Q D H (A i j)) (hb: ∀i,i<m→Q D H (B i)) (hs:H<2^s) (hE:0<E) (hG:E≤G) (hg: ∀j,Q E G (g j)) (ht:G<2^t) (hm:m<128) (hk:7+t+2^m*(s+1)≤320000):FitG m n A B g:=by
 have h0:=Lp.tab0_bnd hD hH ha hb;have hgr:=grow_lt m H s hs
 refine⟨fun j _=>Sz_Q hE (hg j) hG ht (by omega),fun U w k hk'=>?_⟩
 obtain⟨F,hF⟩:=w.bnd h0;have hq:=Lp.price_Q hF (fun j _=>hg j) w.inv hk';have hp1:E*F≤G*grow m H:=Nat.mul_le_mul hG hF.le;have hp2:G*grow m H<2^t*2^(2^m*(s+1)):=Nat.mul_lt_mul'' ht hgr
 have hp3:m*(G*grow m H)<2^(7+t+2^m*(s+1)):=by
  rw[show 7+t+2^m*(s+1)=7+(t+2^m*(s+1)) by omega,Nat.pow_add,Nat.pow_add]
  exact Nat.mul_lt_mul'' (by omega) hp2
 have hm0:0<m:=Nat.lt_of_le_of_lt (Nat.zero_le _) hk'
 exact Sz_Q (Nat.mul_pos hE hF.pos) hq (Nat.le_trans hp1 (Nat.le_mul_of_pos_left _ hm0)) hp3 (by omega)
theorem cst_Q {n E G:Nat} {C:Nat→Rat} (h: ∀j,j<n→Q E G (C j)) (j:Nat):Q E G (Lp.cst n C j):=by
 unfold Lp.cst
 split
 ·next hj=>exact h j hj
 ·exact Lp.Q.zero _ _
theorem szP_of {m n:Nat} {A:Nat→Nat→Rat} {B C:Nat→Rat} (f:Fit m n A B) (fg:FitG m n A B (Lp.cst n C)):SzP m n A B C 40000:=by
 refine⟨fun i j hi hj=>?_,f.r,fun j hj=>?_⟩
 ·have:=f.t i j hi
  unfold Lp.mat at this
  rwa [if_pos hj] at this
 ·have:=fg.s j (by omega)
  unfold Lp.cst at this
  rwa [if_pos hj] at this
structure Small (m n:Nat) (A:Nat→Nat→Rat) (B C:Nat→Rat) (D H s:Nat):Prop where
  d0:0<D
  dh:D≤H
  hs:H<2^s
  a: ∀i j,i<m→j<n→Q D H (A i j)
  b: ∀i,i<m→Q D H (B i)
  c: ∀j,j<n→Q D H (C j)
theorem Small.fit {m n D H s:Nat} {A:Nat→Nat→Rat} {B C:Nat→Rat} (h:Small m n A B C D H s) (hm:m<128) (hk:7+s+2^m*(s+1)≤320000):Fit m n A B∧FitG m n A B (Lp.cst n C)∧SzP m n A B C 40000:=by
 have f:=fit_of h.d0 h.dh h.a h.b h.hs (by omega)
 have fg:=fitG_of (g:=Lp.cst n C) h.d0 h.dh h.a h.b h.hs h.d0 h.dh (cst_Q h.c) h.hs hm hk
 exact⟨f,fg,szP_of f fg⟩
theorem pnum_Q (zs:List Int) (k:Nat):Q 12 180 (pnum zs k):=by
 unfold pnum
 split
 ·exact Lp.Q.zero _ _
 ·have h1:=pN_bd (zs.getD (k %zs.length) 0)
  have h2:=pD_bd (zs.getD (k %zs.length) 0);generalize pN (zs.getD (k %zs.length) 0)=a at*;generalize pD (zs.getD (k %zs.length) 0)=b at*
  refine⟨a*(12/b),?_,?_⟩
  ·have hb:b=1∨b=2∨b=3∨b=4:=by omega
   rcases hb with rfl|rfl|rfl|rfl<;>(rw[Lp.cast_mul];simp[Rat.div_def];try grind)
  ·have hb:b=1∨b=2∨b=3∨b=4:=by omega
   rcases hb with rfl|rfl|rfl|rfl<;>omega
theorem int_Q{z:Int}{D H:Nat}(h:z.natAbs*D≤H):Q D H (z:Rat):=⟨z*D,by rw[Lp.cast_mul],by rw[Int.natAbs_mul];exact h⟩
theorem plan_small (zs:List Int) (m n:Nat):Small m n (plA zs n) (plB zs n) (plC zs m n) 12 204 8:=
 ⟨by decide,by decide,by decide,fun i j _ _=>(pnum_Q zs _).mono (by decide),fun i _=>(pnum_Q zs _).add (int_Q (z:=2) (H:=24) (by decide)),fun j _=>(pnum_Q zs _).mono (by decide)⟩
end Go.Proofs.YtinmmkcjjlconaaGreat
namespace Go.Proofs.YtinmmkcjjlconaaGreat
open Go.RowKit W
open Pl (nb)
open Lp (S S_succ S_zero Cert Feas Dual Unb Out SolP)
def ofM(zs:List (List Int))(i:Nat):Nat→Rat:=ofL (zs.getD i [])
theorem S1(f:Nat→Rat):S 1 f=f 0:=by rw[S_succ,S_zero,Rat.zero_add]
theorem S2(f:Nat→Rat):S 2 f=f 0+f 1:=by rw[S_succ,S1]
theorem S3(f:Nat→Rat):S 3 f=f 0+f 1+f 2:=by rw[S_succ,S2]
def mA:List (List Int):= [[1,1], [1,3], [1,0]]
theorem ex1_ok:Cert 3 2 (ofM mA) (ofL [4,7,3]) (ofL [3,2]) (ofL [3,1]) (ofL [2,0,1]) 11:=by
 refine⟨⟨fun j hj=>?_,fun i hi=>?_⟩,⟨fun i hi=>?_,fun j hj=>?_⟩,?_,?_⟩
 ·have:j=0∨j=1:=by omega
  rcases this with rfl|rfl<;>decide+kernel
 ·have:i=0∨i=1∨i=2:=by omega
  rcases this with rfl|rfl|rfl<;>(rw[S2];decide+kernel)
 ·have:i=0∨i=1∨i=2:=by omega
  rcases this with rfl|rfl|rfl<;>decide+kernel
 ·have:j=0∨j=1:=by omega
  rcases this with rfl|rfl<;>(rw[S3];decide+kernel)
 ·rw[S2];decide+kernel
 ·rw[S3];decide+kernel
theorem ex1_all {X Y:Nat→Rat} {v:Rat} (h:Cert 3 2 (ofM mA) (ofL [4,7,3]) (ofL [3,2]) X Y v):v=11∧(∀i,i<2→X i=ofL [3,1] i)∧∀i,i<3→Y i=ofL [2,0,1] i:=by
 have hv:=h.unique ex1_ok;subst hv
 have x0:=h.px.2 0 (by decide)
 have x1:=h.px.2 1 (by decide)
 have x2:=h.px.2 2 (by decide)
 have y0:=h.py.2 0 (by decide)
 have y1:=h.py.2 1 (by decide)
 have p0:=h.py.1 0 (by decide)
 have p1:=h.py.1 1 (by decide)
 have p2:=h.py.1 2 (by decide)
 have vx:=h.vx;have vy:=h.vy;rw[S2] at x0 x1 x2 vx;rw[S3] at y0 y1 vy;have e: ∀z:Int,((z:Int):Rat)=z:=fun _=>rfl
 have a00:ofM mA 0 0=1:=by decide+kernel
 have a01:ofM mA 0 1=1:=by decide+kernel
 have a10:ofM mA 1 0=1:=by decide+kernel
 have a11:ofM mA 1 1=3:=by decide+kernel
 have a20:ofM mA 2 0=1:=by decide+kernel
 have a21:ofM mA 2 1=0:=by decide+kernel
 have b0:ofL [4,7,3] 0=4:=by decide+kernel
 have b1:ofL [4,7,3] 1=7:=by decide+kernel
 have b2:ofL [4,7,3] 2=3:=by decide+kernel
 have c0:ofL [3,2] 0=3:=by decide+kernel
 have c1:ofL [3,2] 1=2:=by decide+kernel
 have d0:ofL [3,1] 0=3:=by decide+kernel
 have d1:ofL [3,1] 1=1:=by decide+kernel
 have f0:ofL [2,0,1] 0=2:=by decide+kernel
 have f1:ofL [2,0,1] 1=0:=by decide+kernel
 have f2:ofL [2,0,1] 2=1:=by decide+kernel
 simp only[a00,a01,a10,a11,a20,a21,b0,b1,b2,c0,c1] at x0 x1 x2 y0 y1 vx vy
 refine⟨rfl,fun i hi=>?_,fun i hi=>?_⟩
 ·have:i=0∨i=1:=by omega
  rcases this with rfl|rfl
  ·rw[d0];grind
  ·rw[d1];grind
 ·have:i=0∨i=1∨i=2:=by omega
  rcases this with rfl|rfl|rfl
  ·rw[f0];grind
  ·rw[f1];grind
  ·rw[f2];grind
theorem ex2_no (x:Nat→Rat): ¬Feas 1 1 (ofM [[1]]) (ofL [-1]) x:=by
 rintro ⟨h1,h2⟩
 have a:=h1 0 (by decide)
 have b:=h2 0 (by decide)
 rw[S1,show ofM [[1]] 0 0=1 by decide+kernel,show ofL [-1] 0= -1 by decide+kernel] at b
 grind
theorem ex3_unb:Unb 1 1 (ofM [[-1]]) (ofL [1]) (ofL [1]) (ofL [0]) (ofL [1]):=by
 refine⟨⟨fun j hj=>?_,fun i hi=>?_⟩,fun j hj=>?_,fun i hi=>?_,?_⟩
 ·obtain rfl:j=0:=by omega
  decide+kernel
 ·obtain rfl:i=0:=by omega
  rw[S1];decide+kernel
 ·obtain rfl:j=0:=by omega
  decide+kernel
 ·obtain rfl:i=0:=by omega
  rw[S1];decide+kernel
 ·rw[S1];decide+kernel
def hlf(_:Nat):Rat:=1/2
def mhlf(_:Nat):Rat:= -(1/2)
theorem ex4_ok:Cert 1 1 (ofM [[-1]]) mhlf (ofL [-1]) hlf (ofL [1]) (-(1/2)):=by
 refine⟨⟨fun j hj=>?_,fun i hi=>?_⟩,⟨fun i hi=>?_,fun j hj=>?_⟩,?_,?_⟩
 ·show(0:Rat)≤1/2
  decide+kernel
 ·obtain rfl:i=0:=by omega
  rw[S1];decide+kernel
 ·obtain rfl:i=0:=by omega
  decide+kernel
 ·obtain rfl:j=0:=by omega
  rw[S1];decide+kernel
 ·rw[S1];decide+kernel
 ·rw[S1];decide+kernel
theorem ex4_all {X Y:Nat→Rat} {v:Rat} (h:Cert 1 1 (ofM [[-1]]) mhlf (ofL [-1]) X Y v):v= -(1/2)∧(∀i,i<1→X i=hlf i)∧∀i,i<1→Y i=ofL [1] i:=by
 have hv:=h.unique ex4_ok;subst hv;have vx:=h.vx;have vy:=h.vy
 rw[S1,show ofL [-1] 0= -1 by decide+kernel] at vx
 rw[S1] at vy
 refine⟨rfl,fun i hi=>?_,fun i hi=>?_⟩
 ·obtain rfl:i=0:=by omega
  show X 0=1/2
  grind
 ·obtain rfl:i=0:=by omega
  rw[show ofL [1] 0=1 by decide+kernel]
  have vy: -(1/2)*Y 0= -(1/2):=vy
  grind
theorem ex5_ok (A:Nat→Nat→Rat) (B C:Nat→Rat):Cert 0 0 A B C B C 0:=
 ⟨⟨fun j hj=>by omega,fun i hi=>by omega⟩,⟨fun i hi=>by omega,fun j hj=>by omega⟩,rfl,rfl⟩
theorem sol_code{m n code:Nat}{A:Nat→Nat→Rat}{B C:Nat→Rat}{T:Lp.Tab}(h:SolP m n A B C code T){k:Nat}(hk:Out m n A B C k):code=k:=h.out.unique hk
end Go.Proofs.YtinmmkcjjlconaaGreat
namespace Go.Proofs.YtinmmkcjjlconaaGreat
open Go.RowKit W
open Pl (nb bv bv_nb nb_size_zero)
open Lp (S S_succ S_zero Cert Feas Dual Unb Out SolP)
structure Acc (b w:World):Prop where
  out:Below b.heap.size b w
structure AccK (b:World) (g:Nat):Prop where
  out:b.heap.size≤g
section
variable {b w w':World}
theorem Acc.refl(w:World):Acc w w:=⟨Below.refl _ _⟩
theorem Acc.below(h:Acc b w)(hb:Below w.heap.size w w'):Acc b w':=⟨h.out.trans (hb.mono h.out.size)⟩
theorem Acc.drew(h:Acc b w):Acc b w.drew:=h.below (Below.refl _ _).drew
theorem Acc.alloc(h:Acc b w)(o:Obj):Acc b (w.alloc o):=⟨h.out.alloc h.out.size o⟩
theorem Acc.k(h:Acc b w):AccK b w.heap.size:=⟨h.out.size⟩
theorem Acc.setCell(h:Acc b w){p:Addr}(k:AccK b p.block)(v:Value):Acc b (w.setCell p v):=⟨h.out.setCell k.out v⟩
end
section
variable {w:World} {m n:Nat} {A:Nat→Nat→Rat} {F:Nat→Rat}
abbrev At3 (W:World) (b k:Nat) (q:Rat):Prop:=W.cell? ⟨b,k*3,none⟩=some (.bool (decide (q.num<0)))∧W.cell? ⟨b,k*3+1,none⟩=some (.string (nb q.num.natAbs))∧W.cell? ⟨b,k*3+1+1,none⟩=some (.string (nb q.den))
theorem SlR.get {a:Option Addr} {c k:Nat} (h:SlR w (.slice a m c) m F) (hk:k<m): ∃b,a=some ⟨b,0,none⟩∧∀W,Below w.heap.size w W→At3 W b k (F k):=by
 obtain⟨a',c',e,h1⟩:=h
 obtain⟨rfl,rfl⟩:a=a'∧c=c':=by simpa using e
 obtain⟨b,e2,hr⟩:=h1 (by omega)
 exact⟨b,e2,fun W hb=>(hr.below hb).2 k hk⟩
theorem MatR.row {a:Option Addr} {c i:Nat} (h:MatR w (.slice a m c) m n A) (hi:i<m): ∃b a2 c2,a=some ⟨b,0,none⟩∧∀W,Below w.heap.size w W→W.cell? ⟨b,i,none⟩=some (.slice a2 n c2)∧SlR W (.slice a2 n c2) n (A i):=by
 obtain⟨a',c',e,h1⟩:=h
 obtain⟨rfl,rfl⟩:a=a'∧c=c':=by simpa using e
 obtain⟨b,e2,hb,h2⟩:=h1 (by omega)
 obtain⟨vi,h3,hs⟩:=h2 i hi;obtain⟨a2,c2,rfl,_⟩:=id hs
 exact⟨b,a2,c2,e2,fun W ho=>⟨(ho.cell (p:=⟨b,i,none⟩) hb).trans h3,hs.below ho⟩⟩
theorem MatR.get {a:Option Addr} {c i j:Nat} (h:MatR w (.slice a m c) m n A) (hi:i<m) (hj:j<n): ∃b b2 c2,a=some ⟨b,0,none⟩∧∀W,Below w.heap.size w W→W.cell? ⟨b,i,none⟩=some (.slice (some ⟨b2,0,none⟩) n c2)∧At3 W b2 j (A i j):=by
 obtain⟨b,a2,c2,e,h1⟩:=h.row hi;obtain⟨h2,h3⟩:=h1 w (Below.refl _ _);obtain⟨b2,rfl,h4⟩:=h3.get hj
 exact⟨b,b2,c2,e,fun W ho=>⟨(h1 W ho).1,h4 W ho⟩⟩
end
theorem PR.parts {w:World} {pa pb pc:Value} {m n:Nat} {A:Nat→Nat→Rat} {B C:Nat→Rat} (h:PR w (.agg #[pa,pb,pc]) m n A B C):MatR w pa m n A∧SlR w pb m B∧SlR w pc n C:=by
 obtain⟨a,b,c,e,h1,h2,h3⟩:=h.ex
 simp only[Value.agg.injEq,Array.mk.injEq,List.cons.injEq,and_true] at e
 obtain⟨rfl,rfl,rfl⟩:=e
 exact⟨h1,h2,h3⟩
theorem Row3.slr{w:World}{g m c:Nat}{F:Nat→Rat}(h:Row3 w g m (fun j=>q3 (F j))):SlR w (.slice (some ⟨g,0,none⟩) m c) m F:=⟨_,_,rfl,fun _=>⟨g,rfl,h.row (fun _ _=>rfl)⟩⟩
structure SolvC (m n:Nat) (A:Nat→Nat→Rat) (B C:Nat→Rat) (k:Nat) (w:World) (e:Ending) (w':World):Prop where
  ex :Below w.heap.size w w'∧Out m n A B C k∧
    ((k=0∧∃gx gy X Y v,e= .returned (.tuple #[solV gx gy n m v,.int .i64 0])∧Cert m n A B C X Y v∧w.heap.size≤gx∧w.heap.size≤gy∧gx≠gy∧Row3 w' gx n (fun j=>q3 (X j))∧Row3 w' gy m (fun i=>q3 (Y i))∧(∀j,j<n→Sz (X j) 40000)∧(∀i,i<m→Sz (Y i) 40000)∧Sz v 33554432)∨
     (k=1∧e= .returned (.tuple #[solZ,.int .i64 16]))∨(k=2∧e= .returned (.tuple #[solZ,.int .i64 40])))
structure Fits (m n:Nat) (A:Nat→Nat→Rat) (B C:Nat→Rat):Prop where
  hm:m≤100
  hn:n≤400
  f:Fit m n A B
  g:FitG m n A B (Lp.cst n C)
  s:SzP m n A B C 40000
theorem Small.fits {m n D H s:Nat} {A:Nat→Nat→Rat} {B C:Nat→Rat} (h:Small m n A B C D H s) (hm:m≤100) (hn:n≤400) (hk:7+s+2^m*(s+1)≤320000):Fits m n A B C:=by
 obtain⟨a,b,c⟩:=h.fit (by omega) hk
 exact⟨hm,hn,a,b,c⟩
theorem solve_c {m n:Nat} {A:Nat→Nat→Rat} {B C:Nat→Rat} (ft:Fits m n A B C) (p:Value) (w:World) (h:PR w p m n A B C):Calls Tryz.prog 14 #[p] w fun e w'=> ∃k,SolvC m n A B C k w e w':=
 (solve_any p m n A B C w h ft.hm ft.hn ft.s ft.f ft.g).mono (by
  rintro e w' ⟨hb,code,T,hsol,hres⟩
  refine⟨code,⟨hb,hsol.out,?_⟩⟩
  rcases hres with⟨rfl,gx,gy,rfl,h1,h2,h3,h4,h5⟩|h|h
  ·refine .inl ⟨rfl,gx,gy,_,_,_,rfl,hsol.cert,h1,h2,h3,h4,h5,fun j _=>Sz_bsol ft.f hsol.way.1 j,fun i hi=>ft.g.y T hsol.way.1 i hi,?_⟩
   have hn:=ft.hn
   refine(Sz_S (k:=80000) (fun j hj=>Sz_mul (ft.s.c j hj) (Sz_bsol ft.f hsol.way.1 j)) n (Nat.le_refl _)).mono ?_
   have:=Nat.mul_le_mul_left 80001 hn
   omega
  ·exact .inr (.inl h)
  ·exact .inr (.inr h))
theorem make_c (r c:Int) (hr:0≤r∧r≤255) (hc:0≤c∧c≤255) (v:Value) (zs:List Int) (w:World) (h:IntsK .i16 w v zs) (m n:Nat) (hm:(m:Int)=r %7) (hn:(n:Int)=c %7):
  Calls Tryz.prog 13 #[.agg #[.int .u8 r,.int .u8 c,v]] w fun e w'=> ∃a0 c0 a1 c1 a2 c2,e= .returned (.agg #[.slice a0 m c0,.slice a1 m c1,.slice a2 n c2])∧PR w' (.agg #[.slice a0 m c0,.slice a1 m c1,.slice a2 n c2]) m n (plA zs n) (plB zs n) (plC zs m n)∧Below w.heap.size w w':=
 (make_any r c hr hc v zs w h m n hm hn).mono (by
  rintro e w' ⟨g,a0,c0,a1,c1,a2,c2,rv_,lab,rfl,hL⟩
  exact⟨a0,c0,a1,c1,a2,c2,rfl,hL.pr (fun _ _=>rfl),hL.old⟩)
theorem plan_fits (zs:List Int) (m n:Nat) (hm:m≤6) (hn:n≤6):Fits m n (plA zs n) (plB zs n) (plC zs m n):=by
 refine(plan_small zs m n).fits (by omega) (by omega) ?_
 have:=Nat.pow_le_pow_right (n:=2) (by decide) hm
 omega
end Go.Proofs.YtinmmkcjjlconaaGreat
namespace Go.Proofs.YtinmmkcjjlconaaGreat
open Go.RowKit W
open Pl (nb bv bv_nb nb_size_zero)
open Lp (S S_succ)
def setAll(sl:List Nat)(V:Nat→Value)(t:Array Value):Array Value:=sl.foldl (fun t s=>t.setIfInBounds s (V s)) t
theorem setAll_same (sl:List Nat) (t:Array Value):setAll sl (fun s=>t.getD s undef) t=t:=by
 unfold setAll
 have key: ∀(sl:List Nat) (t':Array Value),t'=t→sl.foldl (fun t' s=>t'.setIfInBounds s (t.getD s undef)) t'=t:=by
  intro sl
  induction sl with
  |nil=>intro t' h;exact h
  | cons s sl ih=>
   intro t' h
   refine ih _ ?_
   subst h
   apply Array.ext_getElem?
   intro j
   rw[Array.getElem?_setIfInBounds]
   split
   ·next e=>
    subst e
    by_cases hs:s<t'.size
    ·simp[hs,Array.getD_eq_getD_getElem?]
    ·simp[hs]
   ·rfl
 exact key sl t rfl
def InvA(a0:Act)(sl:List Nat)(J:(Nat→Bool)→(Nat→Value)→World→Prop)(L:Nat→Bool)(a:Act)(w:World):Prop:= ∃V,a= {tmps:=setAll sl V a0.tmps,defers:=a0.defers}∧J L V w
theorem InvA.start{a0:Act}{sl:List Nat}{J:(Nat→Bool)→(Nat→Value)→World→Prop}{L:Nat→Bool}{w:World}(h: ∀V,J L V w):InvA a0 sl J L a0 w:=⟨fun s=>a0.tmps.getD s undef,by rw[setAll_same],h _⟩
def on(L:Nat→Bool)(i j:Nat):Bool:=if j=i then true else L j
abbrev SolC (gx gy:Nat) (q:Rat):List Value:= [.slice (some ⟨gx,0,none⟩) 1 1,.slice (some ⟨gy,0,none⟩) 1 1,.bool (decide (q.num<0)),.string (nb q.num.natAbs),.string (nb q.den)]
structure J9 (w:World) (g8 g10:Nat) (xh xm:Rat) (L:Nat→Bool) (V:Nat→Value) (W:World):Prop where
  acc:Below w.heap.size w W
  b8:Rx W g8 [.bool (decide (xh.num<0)),.string (nb xh.num.natAbs),.string (nb xh.den)]
  b10:Rx W g10 [.bool (decide (xm.num<0)),.string (nb xm.num.natAbs),.string (nb xm.den)]
  f0:L 13=false→L 0=true→Vals 3 W 0 (V 95) [.int .i64 (-1)]
  f1:L 13=false→L 1=true→∃a c,V 96= .slice a 1 c∧SlR W (.slice a 1 c) 1 (ofL [-1])
  f2:L 13=false→L 2=true→∃g,V 97= .slice (some ⟨g,0,none⟩) 1 1∧MatR W (.slice (some ⟨g,0,none⟩) 1 1) 1 1 (ofM [[-1]])
  f3:L 3=true→V 98=rv xm
  f4:L 13=false→L 4=true→∃g,V 99= .slice (some ⟨g,0,none⟩) 1 1∧SlR W (.slice (some ⟨g,0,none⟩) 1 1) 1 (fun _=>xm)
  f5:L 13=false→L 5=true→Vals 3 W 0 (V 100) [.int .i64 (-1)]
  f6:L 13=false→L 6=true→∃a c,V 101= .slice a 1 c∧SlR W (.slice a 1 c) 1 (ofL [-1])
  f7:L 13=false→L 7=true→PR W (V 102) 1 1 (ofM [[-1]]) (fun _=>xm) (ofL [-1])
  f8:L 8=true→∃gx gy,V 103= .tuple #[solV gx gy 1 1 xm,.int .i64 0]∧Row3 W gx 1 (fun _=>q3 xh)∧Row3 W gy 1 (fun j=>q3 (ofL [1] j))∧(L 12=true→∀g,V 11= .pointer (some ⟨g,0,none⟩)→g≠gx∧g≠gy)
  f9:L 9=true→L 8=true∧V 94=V 103
  f10:L 10=true→L 8=true∧∀gx gy,V 103= .tuple #[solV gx gy 1 1 xm,.int .i64 0]→V 104=solV gx gy 1 1 xm
  f11:L 11=true→V 105= .int .i64 0
  f12:L 12=true→∃g,V 11= .pointer (some ⟨g,0,none⟩)∧w.heap.size≤g∧g≠g8∧g≠g10∧(L 13=false→Rx W g [.slice none 0 0,.slice none 0 0,.bool false,.string ⟨#[]⟩,.string ⟨#[]⟩])∧(L 13=true→∃gx gy,Rx W g (SolC gx gy xm)∧Row3 W gx 1 (fun _=>q3 xh)∧Row3 W gy 1 (fun j=>q3 (ofL [1] j)))
  f14:L 14=true→V 12= .int .i64 0
  f13:L 13=true→∀k,k<13→k≠11→L k=true
theorem on_true {L:Nat→Bool} {n k:Nat} (h:L k=true):on L n k=true:=by
 unfold on
 split
 ·rfl
 ·exact h
section
variable {w:World} {g8 g10:Nat} {xh xm:Rat} {L:Nat→Bool} {V:Nat→Value} {W W':World}
theorem J9.below (h:J9 w g8 g10 xh xm L V W) (hb:Below W.heap.size W W'):J9 w g8 g10 xh xm L V W' where
 acc:=h.acc.trans (hb.mono h.acc.size)
 b8:=h.b8.below hb
 b10:=h.b10.below hb
 f0:=fun h1 h2=>(h.f0 h1 h2).below hb
 f1:=fun h1 h2=>by obtain⟨a,c,e,s⟩:=h.f1 h1 h2;exact⟨a,c,e,s.below hb⟩
 f2:=fun h1 h2=>by obtain⟨g,e,s⟩:=h.f2 h1 h2;exact⟨g,e,s.below hb⟩
 f3:=h.f3
 f4:=fun h1 h2=>by obtain⟨g,e,s⟩:=h.f4 h1 h2;exact⟨g,e,s.below hb⟩
 f5:=fun h1 h2=>(h.f5 h1 h2).below hb
 f6:=fun h1 h2=>by obtain⟨a,c,e,s⟩:=h.f6 h1 h2;exact⟨a,c,e,s.below hb⟩
 f7:=fun h1 h2=>(h.f7 h1 h2).below hb
 f8:=fun h1=>by obtain⟨gx,gy,e,r1,r2,n⟩:=h.f8 h1;exact⟨gx,gy,e,r1.below hb,r2.below hb,n⟩
 f9:=h.f9
 f10:=h.f10
 f11:=h.f11
 f12:=fun h1=>by
  obtain⟨g,e,k,n1,n2,r1,r2⟩:=h.f12 h1
  exact⟨g,e,k,n1,n2,fun h2=>(r1 h2).below hb,fun h2=>by obtain⟨gx,gy,a,b,c⟩:=r2 h2;exact⟨gx,gy,a.below hb,b.below hb,c.below hb⟩⟩
 f14:=h.f14
 f13:=h.f13
theorem J9.not13 (h:J9 w g8 g10 xh xm L V W) {k:Nat} (hk:k<13) (hne:k≠11) (hL:L k=false):L 13=false:=by
 cases h13:L 13 with
 |false=>rfl
 |true=>rw[h.f13 h13 k hk hne] at hL;cases hL
theorem J9.start (h1:Below w.heap.size w W) (h2:Rx W g8 [.bool (decide (xh.num<0)),.string (nb xh.num.natAbs),.string (nb xh.den)]) (h3:Rx W g10 [.bool (decide (xm.num<0)),.string (nb xm.num.natAbs),.string (nb xm.den)]):J9 w g8 g10 xh xm (fun _=>false) V W where
 acc:=h1
 b8:=h2
 b10:=h3
 f0:=fun _ h=>by cases h
 f1:=fun _ h=>by cases h
 f2:=fun _ h=>by cases h
 f3:=fun h=>by cases h
 f4:=fun _ h=>by cases h
 f5:=fun _ h=>by cases h
 f6:=fun _ h=>by cases h
 f7:=fun _ h=>by cases h
 f8:=fun h=>by cases h
 f9:=fun h=>by cases h
 f10:=fun h=>by cases h
 f11:=fun h=>by cases h
 f12:=fun h=>by cases h
 f14:=fun h=>by cases h
 f13:=fun h=>by cases h
theorem J9.s0 (h:J9 w g8 g10 xh xm L V W) {v:Value} (hv:Vals 3 W 0 v [.int .i64 (-1)]):J9 w g8 g10 xh xm (on L 0) (upd V 95 v) W:=
 {acc:=h.acc,b8:=h.b8,b10:=h.b10,f0:=fun _ _=>hv,f1:=h.f1,f2:=h.f2,f3:=h.f3,f4:=h.f4,f5:=h.f5,f6:=h.f6,f7:=h.f7,f8:=h.f8,f9:=h.f9,f10:=h.f10,f11:=h.f11,f12:=h.f12,f14:=h.f14,f13:=fun h1 k h2 h3=>on_true (h.f13 h1 k h2 h3)}
theorem J9.s1 (h:J9 w g8 g10 xh xm L V W) {v:Value} (hv: ∃a c,v= .slice a 1 c∧SlR W (.slice a 1 c) 1 (ofL [-1])):J9 w g8 g10 xh xm (on L 1) (upd V 96 v) W:=
 {acc:=h.acc,b8:=h.b8,b10:=h.b10,f0:=h.f0,f1:=fun _ _=>hv,f2:=h.f2,f3:=h.f3,f4:=h.f4,f5:=h.f5,f6:=h.f6,f7:=h.f7,f8:=h.f8,f9:=h.f9,f10:=h.f10,f11:=h.f11,f12:=h.f12,f14:=h.f14,f13:=fun h1 k h2 h3=>on_true (h.f13 h1 k h2 h3)}
theorem J9.s2 (h:J9 w g8 g10 xh xm L V W) {v:Value} (hv: ∃g,v= .slice (some ⟨g,0,none⟩) 1 1∧MatR W (.slice (some ⟨g,0,none⟩) 1 1) 1 1 (ofM [[-1]])):J9 w g8 g10 xh xm (on L 2) (upd V 97 v) W:=
 {acc:=h.acc,b8:=h.b8,b10:=h.b10,f0:=h.f0,f1:=h.f1,f2:=fun _ _=>hv,f3:=h.f3,f4:=h.f4,f5:=h.f5,f6:=h.f6,f7:=h.f7,f8:=h.f8,f9:=h.f9,f10:=h.f10,f11:=h.f11,f12:=h.f12,f14:=h.f14,f13:=fun h1 k h2 h3=>on_true (h.f13 h1 k h2 h3)}
theorem J9.s3 (h:J9 w g8 g10 xh xm L V W) {v:Value} (hv:v=rv xm):J9 w g8 g10 xh xm (on L 3) (upd V 98 v) W:=
 {acc:=h.acc,b8:=h.b8,b10:=h.b10,f0:=h.f0,f1:=h.f1,f2:=h.f2,f3:=fun _=>hv,f4:=h.f4,f5:=h.f5,f6:=h.f6,f7:=h.f7,f8:=h.f8,f9:=h.f9,f10:=h.f10,f11:=h.f11,f12:=h.f12,f14:=h.f14,f13:=fun h1 k h2 h3=>on_true (h.f13 h1 k h2 h3)}
theorem J9.s4 (h:J9 w g8 g10 xh xm L V W) {v:Value} (hv: ∃g,v= .slice (some ⟨g,0,none⟩) 1 1∧SlR W (.slice (some ⟨g,0,none⟩) 1 1) 1 (fun _=>xm)):J9 w g8 g10 xh xm (on L 4) (upd V 99 v) W:=
 {acc:=h.acc,b8:=h.b8,b10:=h.b10,f0:=h.f0,f1:=h.f1,f2:=h.f2,f3:=h.f3,f4:=fun _ _=>hv,f5:=h.f5,f6:=h.f6,f7:=h.f7,f8:=h.f8,f9:=h.f9,f10:=h.f10,f11:=h.f11,f12:=h.f12,f14:=h.f14,f13:=fun h1 k h2 h3=>on_true (h.f13 h1 k h2 h3)}
theorem J9.s5 (h:J9 w g8 g10 xh xm L V W) {v:Value} (hv:Vals 3 W 0 v [.int .i64 (-1)]):J9 w g8 g10 xh xm (on L 5) (upd V 100 v) W:=
 {acc:=h.acc,b8:=h.b8,b10:=h.b10,f0:=h.f0,f1:=h.f1,f2:=h.f2,f3:=h.f3,f4:=h.f4,f5:=fun _ _=>hv,f6:=h.f6,f7:=h.f7,f8:=h.f8,f9:=h.f9,f10:=h.f10,f11:=h.f11,f12:=h.f12,f14:=h.f14,f13:=fun h1 k h2 h3=>on_true (h.f13 h1 k h2 h3)}
theorem J9.s6 (h:J9 w g8 g10 xh xm L V W) {v:Value} (hv: ∃a c,v= .slice a 1 c∧SlR W (.slice a 1 c) 1 (ofL [-1])):J9 w g8 g10 xh xm (on L 6) (upd V 101 v) W:=
 {acc:=h.acc,b8:=h.b8,b10:=h.b10,f0:=h.f0,f1:=h.f1,f2:=h.f2,f3:=h.f3,f4:=h.f4,f5:=h.f5,f6:=fun _ _=>hv,f7:=h.f7,f8:=h.f8,f9:=h.f9,f10:=h.f10,f11:=h.f11,f12:=h.f12,f14:=h.f14,f13:=fun h1 k h2 h3=>on_true (h.f13 h1 k h2 h3)}
theorem J9.s7 (h:J9 w g8 g10 xh xm L V W) {v:Value} (hv:PR W v 1 1 (ofM [[-1]]) (fun _=>xm) (ofL [-1])):J9 w g8 g10 xh xm (on L 7) (upd V 102 v) W:=
 {acc:=h.acc,b8:=h.b8,b10:=h.b10,f0:=h.f0,f1:=h.f1,f2:=h.f2,f3:=h.f3,f4:=h.f4,f5:=h.f5,f6:=h.f6,f7:=fun _ _=>hv,f8:=h.f8,f9:=h.f9,f10:=h.f10,f11:=h.f11,f12:=h.f12,f14:=h.f14,f13:=fun h1 k h2 h3=>on_true (h.f13 h1 k h2 h3)}
theorem J9.s8 (h:J9 w g8 g10 xh xm L V W) (hL:L 8=false) {v:Value} (hv: ∃gx gy,v= .tuple #[solV gx gy 1 1 xm,.int .i64 0]∧Row3 W gx 1 (fun _=>q3 xh)∧Row3 W gy 1 (fun j=>q3 (ofL [1] j))∧(L 12=true→∀g,V 11= .pointer (some ⟨g,0,none⟩)→g≠gx∧g≠gy)):J9 w g8 g10 xh xm (on L 8) (upd V 103 v) W:=
 {acc:=h.acc,b8:=h.b8,b10:=h.b10,f0:=h.f0,f1:=h.f1,f2:=h.f2,f3:=h.f3,f4:=h.f4,f5:=h.f5,f6:=h.f6,f7:=h.f7,f8:=fun _=>hv,f9:=fun h9=>absurd (h.f9 h9).1 (by rw[hL];decide),f10:=fun h9=>absurd (h.f10 h9).1 (by rw[hL];decide),f11:=h.f11,f12:=h.f12,f14:=h.f14,f13:=fun h1 k h2 h3=>on_true (h.f13 h1 k h2 h3)}
theorem J9.s9 (h:J9 w g8 g10 xh xm L V W) (hL:L 8=true) {v:Value} (hv:v=V 103):J9 w g8 g10 xh xm (on L 9) (upd V 94 v) W:=
 {acc:=h.acc,b8:=h.b8,b10:=h.b10,f0:=h.f0,f1:=h.f1,f2:=h.f2,f3:=h.f3,f4:=h.f4,f5:=h.f5,f6:=h.f6,f7:=h.f7,f8:=h.f8,f9:=fun _=>⟨hL,hv⟩,f10:=h.f10,f11:=h.f11,f12:=h.f12,f14:=h.f14,f13:=fun h1 k h2 h3=>on_true (h.f13 h1 k h2 h3)}
theorem J9.s10 (h:J9 w g8 g10 xh xm L V W) (hL:L 8=true) {v:Value} (hv: ∀gx gy,V 103= .tuple #[solV gx gy 1 1 xm,.int .i64 0]→v=solV gx gy 1 1 xm):J9 w g8 g10 xh xm (on L 10) (upd V 104 v) W:=
 {acc:=h.acc,b8:=h.b8,b10:=h.b10,f0:=h.f0,f1:=h.f1,f2:=h.f2,f3:=h.f3,f4:=h.f4,f5:=h.f5,f6:=h.f6,f7:=h.f7,f8:=h.f8,f9:=h.f9,f10:=fun _=>⟨hL,hv⟩,f11:=h.f11,f12:=h.f12,f14:=h.f14,f13:=fun h1 k h2 h3=>on_true (h.f13 h1 k h2 h3)}
theorem J9.s11 (h:J9 w g8 g10 xh xm L V W) {v:Value} (hv:v= .int .i64 0):J9 w g8 g10 xh xm (on L 11) (upd V 105 v) W:=
 {acc:=h.acc,b8:=h.b8,b10:=h.b10,f0:=h.f0,f1:=h.f1,f2:=h.f2,f3:=h.f3,f4:=h.f4,f5:=h.f5,f6:=h.f6,f7:=h.f7,f8:=h.f8,f9:=h.f9,f10:=h.f10,f11:=fun _=>hv,f12:=h.f12,f14:=h.f14,f13:=fun h1 k h2 h3=>on_true (h.f13 h1 k h2 h3)}
theorem J9.s12 (h:J9 w g8 g10 xh xm L V W) (hL:L 13=false) (hb:Below W.heap.size W W') {g:Nat} (hg:W.heap.size≤g) (hr:Rx W' g [.slice none 0 0,.slice none 0 0,.bool false,.string ⟨#[]⟩,.string ⟨#[]⟩]):J9 w g8 g10 xh xm (on L 12) (upd V 11 (.pointer (some ⟨g,0,none⟩))) W':=by
  have h':=h.below hb;have n8:=h.b8.lt;have n10:=h.b10.lt;have hs:=h.acc.size
  exact { acc:=h'.acc,b8:=h'.b8,b10:=h'.b10,f0:=h'.f0,f1:=h'.f1,f2:=h'.f2,f3:=h'.f3,f4:=h'.f4,f5:=h'.f5,f6:=h'.f6,f7:=h'.f7
          f8:=fun h8=>by
            obtain⟨gx,gy,e,r1,r2,_⟩:=h.f8 h8
            refine⟨gx,gy,e,r1.below hb,r2.below hb,fun _ g' e'=>?_⟩
            have e':Value.pointer (some ⟨g,0,none⟩)= .pointer (some ⟨g',0,none⟩):=e'
            obtain rfl:g=g':=by simpa using e'
            have:=r1.lt;have:=r2.lt
            omega
          f9:=h'.f9,f10:=h'.f10,f11:=h'.f11
          f12:=fun _=>⟨g,rfl,by omega,by omega,by omega,fun _=>hr,fun h13=>by
            have h13:L 13=true:=h13
            rw[hL] at h13;cases h13⟩
          f14:=h'.f14
          f13:=fun h1 k h2 h3=>on_true (h.f13 h1 k h2 h3)}
theorem J9.v9 (h:J9 w g8 g10 xh xm L V W) (h9:L 9=true): ∃gx gy,L 8=true∧(∀gx' gy',V 103= .tuple #[solV gx' gy' 1 1 xm,.int .i64 0]→solV gx gy 1 1 xm=solV gx' gy' 1 1 xm)∧V 94= .tuple #[.agg #[.slice (some ⟨gx,0,none⟩) 1 1,.slice (some ⟨gy,0,none⟩) 1 1,.bool (decide (xm.num<0)),.string (nb xm.num.natAbs),.string (nb xm.den)],.int .i64 0]:=by
 obtain⟨h8,e9⟩:=h.f9 h9;obtain⟨gx,gy,e8,q1,q2,nn⟩:=h.f8 h8
 refine⟨gx,gy,h8,fun gx' gy' e=>?_,e9.trans e8⟩
 rw[e8] at e
 simp only[Value.tuple.injEq,Array.mk.injEq,List.cons.injEq,and_true] at e
 exact e
theorem J9.s13 (h:J9 w g8 g10 xh xm L V W) (hL:L 13=false) (h12:L 12=true) (h10:L 10=true) (hall: ∀k,k<13→k≠11→L k=true): ∃g gx gy,V 11= .pointer (some ⟨g,0,none⟩)∧V 104=solV gx gy 1 1 xm∧Rx W g [.slice none 0 0,.slice none 0 0,.bool false,.string ⟨#[]⟩,.string ⟨#[]⟩]∧
    ∀W',Off (fun k=>k=g) W W'→Rx W' g (SolC gx gy xm)→J9 w g8 g10 xh xm (on L 13) V W':=by
  obtain⟨g,e,k,n1,n2,r1,_⟩:=h.f12 h12;obtain⟨h8,f10⟩:=h.f10 h10;obtain⟨gx,gy,e8,q1,q2,nn⟩:=h.f8 h8;obtain⟨m1,m2⟩:=nn h12 g e
  refine⟨g,gx,gy,e,f10 _ _ e8,r1 hL,fun W' ho hr=>?_⟩
  exact { acc:=h.acc.trans (ho.below (B:=w.heap.size) (fun k' hk' e'=>by omega) h.acc.size),b8:=h.b8.off ho (Ne.symm n1),b10:=h.b10.off ho (Ne.symm n2)
          f0:=fun h1 _=>by cases h1
          f1:=fun h1 _=>by cases h1
          f2:=fun h1 _=>by cases h1
          f3:=h.f3
          f4:=fun h1 _=>by cases h1
          f5:=fun h1 _=>by cases h1
          f6:=fun h1 _=>by cases h1
          f7:=fun h1 _=>by cases h1
          f8:=fun _=>⟨gx,gy,e8,q1.off ho (Ne.symm m1),q2.off ho (Ne.symm m2),nn⟩
          f9:=h.f9,f10:=h.f10,f11:=h.f11
          f12:=fun _=>⟨g,e,k,n1,n2,fun h1=>(by cases h1),fun _=>⟨gx,gy,hr,q1.off ho (Ne.symm m1),q2.off ho (Ne.symm m2)⟩⟩
          f14:=h.f14
          f13:=fun _ k h2 h3=>on_true (hall k h2 h3)}
theorem J9.s14 (h:J9 w g8 g10 xh xm L V W) {v:Value} (hv:v= .int .i64 0):J9 w g8 g10 xh xm (on L 14) (upd V 12 v) W:=
 {acc:=h.acc,b8:=h.b8,b10:=h.b10,f0:=h.f0,f1:=h.f1,f2:=h.f2,f3:=h.f3,f4:=h.f4,f5:=h.f5,f6:=h.f6,f7:=h.f7,f8:=h.f8,f9:=h.f9,f10:=h.f10,f11:=h.f11,f12:=h.f12,f14:=fun _=>hv,f13:=fun h1 k h2 h3=>on_true (h.f13 h1 k h2 h3)}
end
end Go.Proofs.YtinmmkcjjlconaaGreat
namespace Go.Proofs.YtinmmkcjjlconaaGreat
open Go.RowKit W
open Pl (nb)
theorem run_append_none_cap {P:Program} {w:World} (base:Nat) (t ty e:TypeId) (i:TypeInfo) (size:Nat) (ht:P.underlying t=some (.slice e)) (hi:P.info? e=some i)
  (v:Value) (n c:Nat) (xs:List Value) (hown:w.ownsRow base e size v n xs):
  (Builtin.append_ #[t,t] ty #[v,.slice none 0 c]).run P w= .ok v w:=by
 rcases hown.2 with⟨rfl,rfl⟩|⟨g,cap,cur,rfl,_,_,hnc,_⟩
 ·simp[Builtin.append_,run_underlying ht,sizeOf,typeInfo,hi,Builtin.lenOf,Builtin.firstCells]
 ·simp[Builtin.append_,run_underlying ht,sizeOf,typeInfo,hi,Builtin.lenOf,Builtin.firstCells,hnc,storeCells]
section
variable {w w':World} {B m:Nat} {v v2:Value} {l:List Raw} {F:Nat→Rat}
theorem run_app_slO (ty:TypeId) (h:Rats w B v l) (h2:SlO w v2 m F) (hlen:l.length+m<1000000000) (hB:B≤w.heap.size):
  ∃v' w',(Builtin.append_ #[27,27] ty #[v,v2]).run Tryz.prog w= .ok v' w'∧Rats w' B v' (l++raws m F)∧w.grownBy w' v.ownBlock∧(v'.ownBlock=v.ownBlock∨v'.ownBlock=some w.heap.size):=by
 obtain⟨i0,hi,hz0,hz1,hz2⟩:=info_parts info_rat;obtain⟨a,cap,rfl,h1⟩:=h2
 by_cases hn:a=none∧m=0
 ·obtain⟨rfl,rfl⟩:=hn
  refine⟨v,w,run_append_none_cap (P:=Tryz.prog) (w:=w) B 27 ty 33 i0 3 Tryz.underlying27 hi v _ _ _ h,?_,World.grownBy.refl _ _,.inl rfl⟩
  simpa [raws] using h
 ·obtain⟨ad,rfl,hnews⟩: ∃ad:Addr,a=some ad∧∀(j:Nat) (u:Value),(flat3 (raws m F))[j]? =some u→w.cell? (ad.add j)=some u:=by
   by_cases hm:m=0
   ·subst hm
    cases a with
    |none=>exact absurd ⟨rfl,rfl⟩ hn
    |some ad=>exact⟨ad,rfl,fun j u hu=>by simp[raws,flat3] at hu⟩
   ·obtain⟨g,o,rfl,hr⟩:=h1 (by omega)
    refine⟨_,rfl,fun j u hu=>?_⟩
    have hj:j<m*3:=by
     have:=(List.getElem?_eq_some_iff.1 hu).1
     rwa [flat3_len,raws_len] at this
    obtain⟨i,r,hr3,rfl⟩: ∃i r,r<3∧j=i*3+r:=⟨j/3,j %3,Nat.mod_lt _ (by decide),by omega⟩
    have hjm:i<(raws m F).length:=by rw[raws_len];omega
    rw[flat3_get _ _ _ hjm hr3,raws_get] at hu
    obtain⟨c0,c1,c2⟩:=hr.2 i (by omega)
    have e0: ∀x,((⟨g,o,none⟩:Addr).add x)=⟨g,o+x,none⟩:=fun x=>by simp[Addr.add]
    rw[e0]
    have hr3:r=0∨r=1∨r=2:=by omega
    rcases hr3 with rfl|rfl|rfl<;>simp[Raw.cells,rawq] at hu<;>subst hu
    ·exact c0
    ·exact c1
    ·exact c2
  obtain⟨v',w',hr,e2,e3,_,e5⟩:=run_append_own_at (P:=Tryz.prog) w B 27 ty 33 i0 _ 3 40 Tryz.underlying27 hi hz0 hz1 hz2 rfl (by decide) v _ _ h ad m cap (flat3 (raws m F)) (by rw[flat3_len,raws_len]) hnews (flat3_one _) (by unfold maxLen;omega) (by omega) hB
  refine⟨v',w',hr,?_,e3,e5⟩
  unfold Rats;rw[List.length_append,raws_len,flat3_append]
  exact e2
theorem step_slO {ops:Array Oper} {o:Oper} {a:Act} {K:Act→World→Prop} {Q:Exit→Act→World→Prop} {E:Prop} {s x:Operand} {ts:Array Value}
  (hgd:o.guard=none)
  (ho:o.op= .call {callee:=.builtin .append,args:= #[s,x],argTypes:= #[27,27]})
  (hs:a.eval s=v) (hx:a.eval x=v2) (B:Nat) (hown:Rats w B v l) (h2:SlO w v2 m F)
  (hlen:l.length+m<1000000000) (hB:B≤w.heap.size)
  (h: ∀v' w',Rats w' B v' (l++raws m F)→w.grownBy w' v.ownBlock→(v'.ownBlock=v.ownBlock∨v'.ownBlock=some w.heap.size)→K (a.put o.dst v') w'):if Region.wanted o (yielded ops ts)=true then Oper.wp Tryz.prog o a w K Q else E:=by
 have hw:Region.wanted o (yielded ops ts)=true:=by simp[Region.wanted,hgd]
 rw[if_pos hw];obtain⟨v',w',hr,e1,e2,e3⟩:=run_app_slO o.type hown h2 hlen hB;unfold Oper.wp execOp
 simp only[ho,resolve,invoke,builtin,Sem.run_bind,Sem.run_pure,Result.andThen_ok,List.map_toArray,List.map_cons,List.map_nil,hs,hx,hr]
 exact h v' w' e1 e2 e3
theorem run_app_slr (ty:TypeId) (h:Rats w B v l) (h2:SlR w v2 m F) (hlen:l.length+m<1000000000) (hB:B≤w.heap.size):
  ∃v' w',(Builtin.append_ #[27,27] ty #[v,v2]).run Tryz.prog w= .ok v' w'∧Rats w' B v' (l++raws m F)∧w.grownBy w' v.ownBlock∧(v'.ownBlock=v.ownBlock∨v'.ownBlock=some w.heap.size):=run_app_slO ty h h2.o hlen hB
end
section
variable {wb:World} {k:Nat} {pv:Nat→Value} {R:Nat→(Nat→Prop)→Value→World→Prop} {zs:List Value} {sl sc sa:Nat→Nat} {L:Nat→Bool} {V:Nat→Value} {O:Nat→Nat→Prop} {G:Nat→Nat} {W W':World}
end
structure Thing where
  O:Nat→Prop
  P:World→Prop
  st: ∀W W' M,P W→Off M W W'→(∀b,O b→¬M b)→P W'
def nothing:Thing:=⟨fun _=>False,fun _=>True,fun _ _ _ _ _ _=>trivial⟩
def boxT(g:Nat)(cs:List Value):Thing:=⟨fun b=>b=g,fun W=>Rx W g cs,fun _ _ _ h ho hm=>h.off ho (hm g rfl)⟩
def listT(v:Value)(l:List Raw):Thing:=⟨fun b=>v.ownBlock=some b,fun W=>Rats W 0 v l,fun _ _ _ h ho hm=>h.off ho hm⟩
structure Sep (wb W:World) (T:Nat→Thing):Prop where
  acc:Below wb.heap.size wb W
  p: ∀i,(T i).P W
  o: ∀i b,(T i).O b→wb.heap.size≤b∧b<W.heap.size
  d: ∀i j,i≠j→∀b,(T i).O b→¬(T j).O b
section
variable {wb W W':World} {T:Nat→Thing}
theorem Sep.start(h:Below wb.heap.size wb W):Sep wb W (fun _=>nothing):=⟨h,fun _=>trivial,fun _ _ h=>h.elim,fun _ _ _ _ h=>h.elim⟩
theorem Sep.step (h:Sep wb W T) (i:Nat) (t:Thing) (ho:Off (T i).O W W') (hP:t.P W') (hO: ∀b,t.O b→(T i).O b∨(W.heap.size≤b∧b<W'.heap.size)):Sep wb W' (upd T i t) where
 acc:=h.acc.trans (ho.below (fun b hb e=>by have:=(h.o i b e).1;omega) h.acc.size)
 p:=fun j=>by
  by_cases e:j=i
  ·subst e;rw[upd_same];exact hP
  ·rw[upd_ne e];exact(T j).st _ _ _ (h.p j) ho (fun b hb=>h.d j i e b hb)
 o :=fun j b hb=>by
  have hs:=h.acc.size;have hs2:=ho.size
  by_cases e:j=i
  ·subst e
   rw[upd_same] at hb
   rcases hO b hb with h1|h1
   ·have:=h.o j b h1;omega
   ·omega
  ·rw[upd_ne e] at hb
   have:=h.o j b hb;omega
 d :=fun a c hne b h1 h2=>by
  by_cases ea:a=i
  ·subst ea
   rw[upd_same] at h1;rw[upd_ne (Ne.symm hne)] at h2
   rcases hO b h1 with h3|h3
   ·exact h.d a c hne b h3 h2
   ·have:=(h.o c b h2).2;omega
  ·by_cases ec:c=i
   ·subst ec
    rw[upd_ne ea] at h1;rw[upd_same] at h2
    rcases hO b h2 with h3|h3
    ·exact h.d a c hne b h1 h3
    ·have:=(h.o a b h1).2;omega
   ·rw[upd_ne ea] at h1
    rw[upd_ne ec] at h2
    exact h.d a c hne b h1 h2
theorem Sep.below (h:Sep wb W T) (hb:Below W.heap.size W W'):Sep wb W' T where
 acc:=h.acc.trans (hb.mono h.acc.size)
 p:=fun j=>(T j).st _ _ NoB (h.p j) (off_of hb) (fun _ _ e=>e)
 o:=fun j b hb2=>⟨(h.o j b hb2).1,Nat.lt_of_lt_of_le (h.o j b hb2).2 hb.size⟩
 d:=h.d
theorem Sep.drew(h:Sep wb W T):Sep wb W.drew T:=h.below (Below.refl _ _).drew
theorem Sep.new (h:Sep wb W T) (i:Nat) (t:Thing) (_hi:T i=nothing) (hb:Below W.heap.size W W') (hP:t.P W') (hO: ∀b,t.O b→W.heap.size≤b∧b<W'.heap.size):Sep wb W' (upd T i t):=
 h.step i t (off_of hb) hP (fun b hb=>.inr (hO b hb))
theorem Sep.same(h:Sep wb W T)(i:Nat)(t:Thing)(hP:t.P W)(hO: ∀b,t.O b→(T i).O b):Sep wb W (upd T i t):=h.step i t (Off.refl _ _) hP (fun b hb=>.inl (hO b hb))
theorem Sep.as{t:Thing}(h:Sep wb W T)(i:Nat)(hi:T i=t):t.P W:=hi▸h.p i
theorem Sep.ne{t u:Thing}(h:Sep wb W T)(i j:Nat)(hne:i≠j)(hi:T i=t)(hj:T j=u): ∀b,t.O b→¬u.O b:=hi▸hj▸h.d i j hne
end
theorem own_app {v v':Value} {W W':World} {l:List Raw} {B:Nat} (hv:Rats W' B v' l) (ho:v'.ownBlock=v.ownBlock∨v'.ownBlock=some W.heap.size): ∀b,v'.ownBlock=some b→v.ownBlock=some b∨(W.heap.size≤b∧b<W'.heap.size):=by
 intro b hb
 rcases ho with e|e
 ·exact .inl (by rw[←e];exact hb)
 ·rw[e] at hb
  obtain rfl:W.heap.size=b:=by simpa using hb
  exact .inr ⟨Nat.le_refl _,hv.low _ e⟩
section
variable {wb:World} {X Y:List Raw} {zs:List Value} {cs:Value→Value→List Value} {n0 m0 n1 m1 na ns s0 t0 s1 t1 sa:Nat} {L:Nat→Bool} {V:Nat→Value} {T:Nat→Thing} {W W':World} {v:Value}
end
end Go.Proofs.YtinmmkcjjlconaaGreat
namespace Go.Proofs.YtinmmkcjjlconaaGreat
open Go.RowKit W
open Pl (nb bv bv_nb nb_size_zero)
open Lp (S S_succ)
theorem rdot_any (a b:Option Addr) (k k2 ca cb:Nat) (F G:Nat→Rat) (w:World) (h1:SlR w (.slice a k ca) k F) (h2:SlO w (.slice b k2 cb) k2 G) (hk:k≤k2) (hk4:k≤400) (hk5:k2≤1000) (sF: ∀i,i<k→Sz (F i) 40000) (sG: ∀i,i<k→Sz (G i) 40000):
  Calls Tryz.prog 25 #[.slice a k ca,.slice b k2 cb] w fun e w'=>e= .returned (rv (S k (fun i=>F i*G i)))∧Below w.heap.size w w':=by
 have HF:=Lib.hid (fun i (hi:i<k)=>h1.get hi)
 have HG:=Lib.hid (fun i (hi:i<k)=>h2.get (show i<k2 by omega))
 have HM:=Lib.hid (fun W i (hi:i<k)=>rmul2_any (F i) (G i) W ((sF i hi).mono (by decide)) ((sG i hi).mono (by decide)))
 have HA:=Lib.hid (fun W i (hi:i<k)=>radd2_any (S i (fun i=>F i*G i)) (F i*G i) W ((Sz_S (k:=80000) (n:=i) (fun x hx=>Sz_mul (sF x (by omega)) (sG x (by omega))) i (Nat.le_refl _)).mono (by omega)) ((Sz_mul (sF i hi) (sG i hi)).mono (by decide)))
 obtain⟨T,hT⟩: ∃T:Nat→Rat,T=fun i=>S i (fun i=>F i*G i):=⟨_,rfl⟩
 have HZ:Hid (∀W,Calls Tryz.prog 48 #[] W fun e w'=>e= .returned (rv (T 0))∧Below W.heap.size W w'):=Lib.hid (fun W=>by rw[hT];exact rzero_any W)
 have HA:Hid (∀W i,i<k→Calls Tryz.prog 38 #[rv (T i),rv (F i*G i)] W fun e w'=>e= .returned (rv (T (i+1)))∧Below W.heap.size W w'):=Lib.hid (fun W i hi=>by rw[hT];exact HA.out W i hi)
 rw[show S k (fun i=>F i*G i)=T k by rw[hT]]
 clear hT h1 h2 sF sG
 simp only[rv] at HZ
 unfold rv
 go_enter Tryz.func25,Tryz.ntmps25
 have⟨bR,ag⟩:=opn1 w [.bool false,.string ⟨#[]⟩,.string ⟨#[]⟩] 33
 go_upto_region 1 with fail
 generalize w.alloc (.cells #[.bool false,.string ⟨#[]⟩,.string ⟨#[]⟩] 33)=W0 at*;obtain⟨gR,hgR⟩: ∃g,g=w.heap.size:=⟨_,rfl⟩;rw[←hgR] at bR
 simp only[←hgR]
 have kgR:w.heap.size≤gR:=by omega
 clear hgR
 go_wp2_with fail
 with_reducible refine(HZ.out _).mono ?_
 rintro e wX ⟨rfl,am⟩;replace ag:=ag.tr am;replace bR:=bR.below am;clear am;have kgS:=ag.size;replace ag:=ag.alloc ag.size (.cells #[.bool (decide ((T 0).num<0)),.string (nb (T 0).num.natAbs),.string (nb (T 0).den)] 33);have dgR:=bR.lt;replace bR:=bR.alloc (.cells #[.bool (decide ((T 0).num<0)),.string (nb (T 0).num.natAbs),.string (nb (T 0).den)] 33)
 have bS:Rx (wX.alloc (.cells #[.bool (decide ((T 0).num<0)),.string (nb (T 0).num.natAbs),.string (nb (T 0).den)] 33)) wX.heap.size [.bool (decide ((T 0).num<0)),.string (nb (T 0).num.natAbs),.string (nb (T 0).den)]:=Rx.new wX _ rfl [.bool (decide ((T 0).num<0)),.string (nb (T 0).num.natAbs),.string (nb (T 0).den)] 33
 go_upto_region 3 with fail
 generalize wX.heap.size=gS at*;generalize wX.alloc (.cells #[.bool (decide ((T 0).num<0)),.string (nb (T 0).num.natAbs),.string (nb (T 0).den)] 33)=WgS at*
 have ngRgS:gR≠gS:=by omega
 clear dgR
 go_loopw [6] (fun s6 wr=> ∃i:Nat,i≤k∧s6= .int .i64 (i:Int)∧Rx wr gR [.bool false,.string ⟨#[]⟩,.string ⟨#[]⟩]∧Rx wr gS [.bool (decide ((T i).num<0)),.string (nb (T i).num.natAbs),.string (nb (T i).den)]∧Below w.heap.size w wr) (fun s6 _=>k-(intOf s6).toNat)
 case atStart=>exact⟨0,by omega,rfl,bR,bS,ag⟩
 case round=>
  clear ag bR bS;obtain⟨i,hi,rfl,bR,bS,ag⟩:=hrel
  by_cases hlt:i<k
  ·have hi0:(0:Int)≤(i:Int):=by omega
   have hi1:(i:Int)<(k:Int):=by omega
   have hi2:(i:Int)<(k2:Int):=by omega
   obtain⟨b1,rfl,hf⟩:=HF.out i hlt;obtain⟨b2,o2,rfl,hg⟩:=HG.out i hlt;have HFi:=Lib.hid hf;have HGi:=Lib.hid hg;have HMi:=Lib.hid (fun W=>HM.out W i hlt);have HAi:=Lib.hid (fun W=>HA.out W i hlt);clear hf hg
   simp only[rv] at HMi HAi
   generalize F i*G i=z at*;generalize F i=x at*;generalize G i=y at*;generalize ht1:T (i+1)=t1 at*;have HT1:=Lib.hid ht1;clear ht1;generalize T i=t0 at*
   go_upto_region 5 with fail
   replace ag:=ag.drew;replace bR:=bR.drew;replace bS:=bS.drew
   refine wp_schH (S:=(fun w'=>w'.cell? ⟨b1,i*3,none⟩=some (.bool (decide (x.num<0)))∧w'.cell? ⟨b1,i*3+1,none⟩=some (.string (nb x.num.natAbs))∧w'.cell? ⟨b1,i*3+1+1,none⟩=some (.string (nb x.den))∧w'.cell? ⟨b2,o2+i*3,none⟩=some (.bool (decide (y.num<0)))∧w'.cell? ⟨b2,o2+i*3+1,none⟩=some (.string (nb y.num.natAbs))∧w'.cell? ⟨b2,o2+i*3+1+1,none⟩=some (.string (nb y.den)))) (.p 1 (.p 2 (.p 3 (.p 4 (.p 5 (.p 6 (.p 7 (.p 8 (.b (.c 0 (.c 9 (.c 10 (.c 11 .e)))) (.c 9 (.c 0 (.c 10 (.c 11 .e))))))))))))) [5,0,6,1] fun A WD hA aq=>?_
   simp only[←aq.out] at ag bR bS
   clear aq
   refine⟨?_,fun ap=>?_⟩
   ·try dsimp only
    with_reducible exact⟨(HFi.out _ ag).1,(HFi.out _ ag).2.1,(HFi.out _ ag).2.2,(HGi.out _ ag).1,(HGi.out _ ag).2.1,(HGi.out _ ag).2.2⟩
   repeat' first
    |((with_reducible refine isP ?_);refine tkO ?_)
    |(with_reducible refine brA ?_ ?_)
    | (
     with_reducible refine isA (i:=0) ?_
     refine acO fun aa KK hF hK=>?_
     dsimp only[Fa] at hF
     have⟨cS0,fS0,cS1,fS1,cS2,fS2⟩:=bS.all3
     go_simp
     clear cS0 fS0 cS1 fS1 cS2 fS2
     (first|refine hK.out _ _ ?_ (fun ap=>?_)|(go_wp2_with fail;refine hK.out _ _ ?_ (fun ap=>?_)))
     ·try dsimp only
      with_reducible exact⟨(HFi.out _ ag).1,(HFi.out _ ag).2.1,(HFi.out _ ag).2.2,(HGi.out _ ag).1,(HGi.out _ ag).2.1,(HGi.out _ ag).2.2⟩
     clear hK KK hF aa)
    | (
     with_reducible refine isA (i:=9) ?_
     refine caO (HMi.out _) fun e wX hz=>?_
     obtain⟨rfl,am⟩:=hz;replace ag:=ag.tr am;replace bR:=bR.below am;replace bS:=bS.below am;clear am
     refine⟨_,rfl,?_,?_⟩
     ·try dsimp only
      with_reducible exact⟨(HFi.out _ ag).1,(HFi.out _ ag).2.1,(HFi.out _ ag).2.2,(HGi.out _ ag).1,(HGi.out _ ag).2.1,(HGi.out _ ag).2.2⟩)
    | (
     with_reducible refine isA (i:=10) ?_
     refine caO (HAi.out _) fun e wX hz=>?_
     obtain⟨rfl,am⟩:=hz;replace ag:=ag.tr am;replace bR:=bR.below am;replace bS:=bS.below am;clear am
     refine⟨_,rfl,?_,?_⟩
     ·try dsimp only
      with_reducible exact⟨(HFi.out _ ag).1,(HFi.out _ ag).2.1,(HFi.out _ ag).2.2,(HGi.out _ ag).1,(HGi.out _ ag).2.1,(HGi.out _ ag).2.2⟩)
    | (
     with_reducible refine isA (i:=11) ?_
     refine acO fun aa KK hF hK=>?_
     dsimp only[Fa] at hF
     have⟨cS0,fS0,cS1,fS1,cS2,fS2⟩:=bS.all3;replace ag:=((ag.setCell (p:=⟨gS,0,none⟩) kgS (.bool (decide (t1.num<0)))).setCell (p:=⟨gS,1,none⟩) kgS (.string (nb t1.num.natAbs))).setCell (p:=⟨gS,2,none⟩) kgS (.string (nb t1.den));replace bR:=(((bR.other (p:=⟨gS,0,none⟩) (Ne.symm ngRgS) (.bool (decide (t1.num<0)))).other (p:=⟨gS,1,none⟩) (Ne.symm ngRgS) (.string (nb t1.num.natAbs))).other (p:=⟨gS,2,none⟩) (Ne.symm ngRgS) (.string (nb t1.den)))
     replace bS:=(((bS.put 0 (.bool (decide (t1.num<0))) (by simp)).put 1 (.string (nb t1.num.natAbs)) (by simp)).put 2 (.string (nb t1.den)) (by simp))
     simp only[List.set] at bS
     go_simp
     clear cS0 fS0 cS1 fS1 cS2 fS2;generalize ((wX.setCell ⟨gS,0,none⟩ (.bool (decide (t1.num<0)))).setCell ⟨gS,1,none⟩ (.string (nb t1.num.natAbs))).setCell ⟨gS,2,none⟩ (.string (nb t1.den))=WS at*
     (first|refine hK.out undef _ ?_ (fun ap=>?_)|(go_wp2_with fail;refine hK.out undef _ ?_ (fun ap=>?_)))
     ·try dsimp only
      with_reducible exact⟨(HFi.out _ ag).1,(HFi.out _ ag).2.1,(HFi.out _ ag).2.2,(HGi.out _ ag).1,(HGi.out _ ag).2.1,(HGi.out _ ag).2.2⟩
     clear hK KK hF aa)
   all_goals(
    refine enO hA ?_
    clear hA
    go_wp2_with fail
    go_roundw
    case rel=>exact⟨i+1,by omega,by go_num,bR,(by rw[HT1.out];exact bS),ag⟩
    case measure=>simp[intOf];omega)
  ·obtain rfl:i=k:=by omega
   have hi1: ¬(i:Int)<(i:Int):=by omega
   have⟨cS0,fS0,cS1,fS1,cS2,fS2⟩:=bS.all3;have⟨cgR0,fgR0,cgR1,fgR1,cgR2,fgR2⟩:=bR.all3
   go_wp2_with fail
   refine bodyPost_ret (v:=.agg #[.bool (decide ((T i).num<0)),.string (nb (T i).num.natAbs),.string (nb (T i).den)]) (by simp[results,Tryz.results25,go_sem,cgR0,cgR1,cgR2]) rfl ⟨rfl,(((ag.setCell kgR _).setCell kgR _).setCell kgR _)⟩
end Go.Proofs.YtinmmkcjjlconaaGreat
