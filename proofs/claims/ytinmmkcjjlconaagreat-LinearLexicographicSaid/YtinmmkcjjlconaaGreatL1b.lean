/- Parts of the proofs about this seat's statements. -/
import Derived.Test.YtinmmkcjjlconaaGreatL1a
import Derived.WalkKit
import Derived.WalkSpells
import Derived.WalkLawsBesides
import Derived.Deep.QuietTactic
import Derived.BigQuiet
import Derived.Lib.Hide
import Derived.Deep.RegionHeld3
import Derived.Deep.AppendLies
import Derived.IntWalk
import Derived.Laws.AppendOwnNone
set_option maxRecDepth 100000
set_option maxHeartbeats 16000000
namespace Go.Proofs.YtinmmkcjjlconaaGreat
open Go.RowKit Pl
theorem ret_str{a b:ByteArray}(h:a=b):Ending.returned (.string a)= .returned (.string b):=by rw[h]
theorem ret_int{k:IntKind}{a b:Int}(h:a=b):Ending.returned (.int k a)= .returned (.int k b):=by rw[h]
theorem canon_any (s:ByteArray) (w:World) (hs:s.size≤maxLen):
  Calls Tryz.prog 92 #[.string s] w fun e w'=>e= .returned (.string (nb (bv s)))∧w=w':=by
 unfold maxLen at hs
 go_enter Tryz.func92,Tryz.ntmps92
 go_wp2
 go_loop [3] (fun i=> ∃k:Nat,k≤s.size∧Zeros s k∧i= .int .i64 k) (fun i=>s.size-(intOf i).toNat)
 case atStart=>exact⟨0,Nat.zero_le _,Zeros.zero s,rfl⟩
 case round=>
  obtain⟨k,hk,hz,rfl⟩:=hrel
  by_cases hlt:k<s.size
  ·go_wp2
   ·go_round
    case rel=>exact⟨k+1,by omega,hz.succ hlt (by assumption),by go_num⟩
    case measure=>simp[intOf];omega
   ·go_ret
    exact⟨ret_str (hz.stop hlt (by assumption)),rfl⟩
  ·go_wp2
   go_ret
   exact⟨ret_str (hz.full hlt),rfl⟩
def Ints(w:World)(B:Nat)(v:Value)(l:List Int):Prop:=w.ownsRow B 3 1 v l.length (l.map (Value.int .i64))
def RetInts(B:Nat)(l:List Int)(e:Ending)(w:World):Prop:= ∃v,e= .returned v∧Ints w B v l
theorem Ints.open {w:World} {B:Nat} {v:Value} {l:List Int} (h:Ints w B v l):
  ∃a cap,v= .slice a l.length cap∧l.length≤cap∧cap≤maxLen∧∀k (hk:k<l.length),∃g,B≤g∧g<w.heap.size∧a=some ⟨g,0,none⟩∧w.cell? ⟨g,k,none⟩=some (.int .i64 l[k]):=by
 rcases h.2 with⟨rfl,hn⟩|⟨g,cap,cur,rfl,hb,hg,hnc,hcm,hcs,htake⟩
 ·exact⟨none,0,by rw[hn],by omega,by simp[maxLen],fun k hk=>by omega⟩
 ·refine⟨some ⟨g,0,none⟩,cap,rfl,hnc,hcm,fun k hk=>⟨g,hb,(Array.getElem?_eq_some_iff.1 hg).1,rfl,?_⟩⟩
  have:=h.cells (g:=g) rfl k (.int .i64 l[k]) (by simp[hk])
  have hadd:(⟨g,0,none⟩:Addr).add k=⟨g,k,none⟩:=by unfold Addr.add;split<;>simp_all
  rwa [hadd] at this
theorem Ints.take {w:World} {B:Nat} {a:Option Addr} {cap:Nat} {l:List Int} (h:Ints w B (.slice a l.length cap) l) (n:Nat) (hn:n≤l.length) (h0:0<l.length):Ints w B (.slice a n cap) (l.take n):=by
 rcases h.2 with⟨hv,hz⟩|⟨g,cap',cur,hv,hb,hg,hnc,hcm,hcs,htake⟩
 ·omega
 ·simp only[Value.slice.injEq] at hv
  obtain⟨rfl,_,rfl⟩:=hv
  have hlen:(l.take n).length=n:=by simp;omega
  refine⟨by simp,.inr ⟨g,cap,cur,by rw[hlen],hb,hg,by omega,hcm,hcs,?_⟩⟩
  rw[hlen,List.map_take,←htake,List.take_take]
  congr 1;omega
theorem Ints.nil(w:World)(B:Nat):Ints w B (.slice none 0 0) []:=World.ownsRow_nil w B _ 1
theorem trimmed {w:World} {B:Nat} {a:Option Addr} {cap:Nat} {l l':List Int} (h:Ints w B (.slice a l.length cap) l) (n:Nat) (hn:n≤l.length) (e:l.take n=l'):Ints w B (.slice a n cap) l':=by
 subst e
 by_cases h0:0<l.length
 ·exact h.take n hn h0
 ·obtain rfl:n=l.length:=by omega
  simpa using h
def lenV:Value→Nat| .slice _ n _=>n|_=>0
theorem trim_any (l:List Int) (v:Value) (B:Nat) (w:World) (hd:Dig l) (h:Ints w B v l):
  Calls Tryz.prog 116 #[v] w fun e w'=>RetInts B (digs (dv l).toNat) e w'∧w=w':=by
 obtain⟨a,cap,rfl,hc,hm,hcell⟩:=h.open;unfold maxLen at hm;have hcell:=Lib.hid hcell
 go_enter Tryz.func116,Tryz.ntmps116
 go_wp2
 go_loop [0] (fun x=> ∃n:Nat,n≤l.length∧dv (l.take n)=dv l∧x= .slice a n cap) lenV
 case atStart=>exact⟨l.length,by omega,by simp,rfl⟩
 case round=>
  obtain⟨n,hn,hz,rfl⟩:=hrel;have hz:=Lib.hid hz
  cases n with
  |zero=>
   go_wp2
   go_ret
   exact⟨⟨_,rfl,trimmed h 0 (by omega) (trim_zero hz.out)⟩,rfl⟩
  | succ n=>
   obtain⟨g,hg1,hg2,rfl,hc1⟩:=hcell.out n (by omega)
   go_wp2
   ·go_round
    case rel=>exact⟨n,by omega,trim_succ (by omega) hz.out (by assumption),rfl⟩
    case measure=>simp[lenV]
   ·go_ret
    exact⟨⟨_,rfl,trimmed h (n+1) hn (trim_stop hd (by omega) hz.out (by assumption))⟩,rfl⟩
end Go.Proofs.YtinmmkcjjlconaaGreat
namespace Go.Proofs.YtinmmkcjjlconaaGreat
open Go.RowKit Pl
theorem info_int:(Tryz.prog.info? 3).map (fun i=>(i.zero,i.size,i.bytes))=some (some (.int .i64 0),1,8):=by kernel_rfl
theorem val_int{k:IntKind}{a b:Int}(h:a=b):Value.int k a= .int k b:=by rw[h]
theorem Ints.alloc{w:World}{B:Nat}{v:Value}{l:List Int}(h:Ints w B v l)(o:Obj):Ints (w.alloc o) B v l:=World.ownsRow.alloc h o
theorem Ints.of_eq{w:World}{B:Nat}{v:Value}{l l':List Int}(h:Ints w B v l)(e:l=l'):Ints w B v l':=e▸h
theorem Ints.snoc {w:World} {B:Nat} {v:Value} {l:List Int} {x:Int} (h:w.ownsRow B 3 1 v (l.length+1) (l.map (Value.int .i64)++ [.int .i64 x])):Ints w B v (l++ [x]):=by
 unfold Ints;rw[List.length_append,List.map_append];exact h
theorem grownBy_alloc_trans {w w':World} {o:Obj} {r:Option Nat} (h:(w.alloc o).grownBy w' r):w.grownBy w' r:=
 ⟨h.os,h.tape,h.output,by have:=h.size;simp at this;omega,fun k hk hne=>by
  rw[h.block k (by simp;omega) hne];exact Below.heap_alloc _ _ _ hk⟩
theorem Ints.own{w:World}{B:Nat}{v:Value}{l:List Int}(h:Ints w B v l): ∀k,v.ownBlock=some k→B≤k:=fun k hk=>(World.ownsRow.lt h k hk).1
theorem app_int {w:World} {ops:Array Oper} {rest:List Oper} {o:Oper} {a:Act} {Q:Exit→Act→World→Prop} {s x:Operand} {v:Value} {l:List Int} {z:Int}
  (hgd:o.guard=none)
  (ho:o.op= .call {callee:=.builtin .append,args:= #[s,x],argTypes:= #[81,81]})
  (hs:a.eval s=v) (hx:a.eval x= .slice (some ⟨w.heap.size,0,none⟩) 1 1) (B:Nat) (hown:Ints w B v l)
  (hlen:l.length<8589934592) (hB:B≤w.heap.size)
  (h: ∀v' w',Ints w' B v' (l++ [z])→w.grownBy w' v.ownBlock→wpList Tryz.prog ops Q rest (a.put o.dst v') w'):wpList Tryz.prog ops Q (o::rest) a (w.alloc (.cells #[.int .i64 z] 3)):=by
 obtain⟨i0,hi,hz0,hz1,hz2⟩:=info_parts info_int
 refine wpList_append_own _ hgd s x 81 ho B 3 i0 (.int .i64 0) 1 8 Tryz.underlying81 hi hz0 hz1 hz2 rfl (by decide) v _ _ hs (hown.alloc _) ⟨w.heap.size,0,none⟩ 1 1 [.int .i64 z] hx rfl (cell_one_new _ _ _) ?_ (by unfold maxLen;omega) (by omega) (by simp;omega) ?_
 ·intro u hu;simp at hu;subst hu;rfl
 ·intro v' w' h1 h2 _
  exact h v' w' (Ints.snoc h1) (grownBy_alloc_trans h2)
theorem of_any (s:ByteArray) (w:World) (hs:s.size≤4294967296):
  Calls Tryz.prog 94 #[.string s] w fun e w'=>RetInts w.heap.size (digs (bv s)) e w'∧Below w.heap.size w w':=by
 have hm:s.size≤maxLen:=by unfold maxLen;omega
 have hn:=nb_bv_size s;obtain⟨i0,hi,hz0,hz1,hz2⟩:=info_parts info_int
 go_enter Tryz.func94,Tryz.ntmps94
 go_wp2_with (go_at_call 92;refine(canon_any _ _ hm).mono ?_;rintro e w' ⟨rfl,rfl⟩)
 generalize hN:bv s=n at hn;have HN:=Lib.hid hN;clear hN hm
 go_loopw [3,4] (fun v en wr=> ∃(l:List Int) (m:Int),Ints wr w.heap.size v l∧digs n=l++digs (tk (nb n) m.toNat)∧m≤(nb n).size∧en= .int .i64 m∧ -3<m∧Below w.heap.size w wr) (fun _ en _=>(intOf en).toNat)
 case atStart=>exact⟨[],(nb n).size,Ints.nil _ _,by rw[Int.toNat_natCast,tk_size,bv_nb];rfl,by omega,rfl,by omega,Below.refl _ _⟩
 case round=>
  obtain⟨l,m,hl,hdig,hms,rfl,hm3,hbel⟩:=hrel
  have hll:l.length≤4294967296:=by
   have h1:=digs_len_nb n;have h2:=congrArg List.length hdig
   simp at h2;omega
  have Hdig:=Lib.hid hdig;clear hdig
  by_cases hpos:0<m
  ·obtain⟨m,rfl⟩:=Int.eq_ofNat_of_zero_le (Int.le_of_lt hpos)
   have htp:tk (nb n) m≠0:=tk_pos (by omega) (by omega)
   have Htp:=Lib.hid htp;clear htp;obtain⟨s0,hs0⟩: ∃s0:Nat,s0=m-3:=⟨_,rfl⟩
   have hsa:s0≤m:=by omega
   have hsb:m≤s0+3:=by omega
   have hmx:(m:Int)-3=s0∨((0:Int)=s0∧m<3):=by omega
   have Hs0:=Lib.hid hs0;clear hs0
   rcases Nat.lt_or_ge m 3 with h3|h3
   all_goals
    have Hmx:=Lib.hid hmx;clear hmx
    go_wp2
    go_loop [5,6] (fun d k=> ∃kk dd:Nat,s0≤kk∧kk≤m∧Mid (nb n) s0 kk dd∧d= .int .i64 dd∧k= .int .i64 kk) (fun _ k=>m-(intOf k).toNat)
    case atStart=>exact⟨s0,0,by omega,by omega,Mid.start _ _,rfl,val_int (by have:=Hmx.out;omega)⟩
    case round=>
     obtain⟨kk,dd,h1,h2,hM,rfl,rfl⟩:=hrel
     by_cases hlt:kk<m
     ·have hd:=hM.lt (by omega)
      have hk':kk<(nb n).size:=by omega
      have hb:=(nb n)[kk].toNat_lt
      go_wp2
      go_round
      case rel=>exact⟨kk+1,_,by omega,by omega,hM.succ h1 hk',by go_num,by go_num⟩
      case measure=>simp[intOf];omega
     ·obtain rfl:kk=m:=by omega
      have hd:=hM.lt' (by omega)
      go_wp2_with (at_builtin;refine app_int (by rfl) (by rfl) (by rfl) (by rfl) w.heap.size hl (by omega) hbel.size ?_;intro v' w1 hl1 hg1)
      have hb1:=hbel.grown hg1 hbel.size hl.own
      go_wp2
      go_roundw
      case rel=>exact⟨l++ [(dd:Int)],_,hl1,of_step Hdig.out (hM.done Hs0.out Htp.out) (by have:=Hs0.out;omega),by omega,rfl,by omega,hb1⟩
      case measure=>simp[intOf];omega
  ·have hf:digs n=l:=by rw[Hdig.out,show m.toNat=0 by omega,tk_zero,digs_zero,List.append_nil]
   have Hf:=Lib.hid hf;clear hf
   go_wp2
   go_ret
   exact⟨⟨_,rfl,hl.of_eq (by rw[←Hf.out,HN.out])⟩,hbel⟩
theorem info_u8:(Tryz.prog.info? 5).map (fun i=>(i.zero,i.size,i.bytes))=some (some (.int .u8 0),1,1):=by kernel_rfl
def Bys(w:World)(B:Nat)(v:Value)(l:List UInt8):Prop:=w.ownsRow B 5 1 v l.length (l.map fun b=>.int .u8 (b.toNat:Int))
theorem u8_wrap(x:Int):IntKind.u8.wrap x=((u8 x).toNat:Int):=by rw[u8_toNat];rfl
theorem Bys.nil(w:World)(B:Nat):Bys w B (.slice none 0 0) []:=World.ownsRow_nil w B _ 1
theorem Bys.own{w:World}{B:Nat}{v:Value}{l:List UInt8}(h:Bys w B v l): ∀k,v.ownBlock=some k→B≤k:=fun k hk=>(World.ownsRow.lt h k hk).1
theorem Bys.ne_own{w:World}{B:Nat}{v:Value}{l:List UInt8}(h:Bys w B v l){g:Nat}(hg:g<B):some g≠v.ownBlock:=fun e=>by have:=h.own g e.symm;omega
theorem Bys.conv {w:World} {B:Nat} {v:Value} {l:List UInt8} (h:Bys w B v l) (dst:TypeId) (hd:Tryz.prog.underlying dst=some .string):
  (convert 49 dst v).run Tryz.prog w= .ok (.string ⟨l.toArray⟩) w:=by
 rcases h.2 with⟨rfl,hn⟩|⟨g,cap,cur,rfl,hb,hg,hnc,hcm,hcs,htake⟩
 ·have:l= []:=List.eq_nil_of_length_eq_zero hn
  subst this
  exact run_convert_bytes_nil w 49 5 Tryz.underlying49 Tryz.underlying5 0 0 dst hd
 ·refine run_convert_bytes_back w 49 dst 5 ⟨g,0,none⟩ cap l Tryz.underlying49 Tryz.underlying5 hd ?_
  intro j hj
  exact h.cells (g:=g) rfl j _ (by simp[hj])
theorem grownBy_drew_alloc {w w':World} {o:Obj} {r:Option Nat} (h:(w.alloc o).drew.grownBy w' r):w.grownBy w' r:=
 grownBy_alloc_trans ⟨h.os,h.tape,h.output,h.size,h.block⟩
theorem step_app3 {w:World} {ops:Array Oper} {o:Oper} {a:Act} {K:Act→World→Prop} {Q:Exit→Act→World→Prop} {E:Prop} {s x:Operand} {v:Value} {l:List UInt8} {x1 x2 x3:Int}
  (hgd:o.guard=none)
  (ho:o.op= .call {callee:=.builtin .append,args:= #[s,x],argTypes:= #[49,49]})
  (hs:a.eval s=v) (hx:a.eval x= .slice (some ⟨w.heap.size,0,none⟩) 3 3) (B:Nat) (hown:Bys w B v l)
  (hlen:l.length<8589934592) (hB:B≤w.heap.size)
  (h: ∀g cap w',Bys w' B (.slice (some ⟨g,0,none⟩) (l.length+3) cap) (l++ [u8 x1,u8 x2,u8 x3])→w.grownBy w' v.ownBlock→K (a.put o.dst (.slice (some ⟨g,0,none⟩) (l.length+3) cap)) w'):
  if Region.wanted o (yielded ops a.tmps)=true then Oper.wp Tryz.prog o a (w.alloc (.cells #[.int .u8 (IntKind.u8.wrap x1),.int .u8 (IntKind.u8.wrap x2),.int .u8 (IntKind.u8.wrap x3)] 5)).drew K Q else E:=by
 obtain⟨i0,hi,hz0,hz1,hz2⟩:=info_parts info_u8;have hb:=heap_alloc_new w (.cells #[.int .u8 (IntKind.u8.wrap x1),.int .u8 (IntKind.u8.wrap x2),.int .u8 (IntKind.u8.wrap x3)] 5)
 refine step_append_lies _ hgd s x 49 ho B 5 i0 (.int .u8 0) 1 1 Tryz.underlying49 hi hz0 hz1 hz2 rfl (by decide) v _ _ hs ((World.ownsRow.alloc hown _).drew) ⟨w.heap.size,0,none⟩ 3 3 [.int .u8 (IntKind.u8.wrap x1),.int .u8 (IntKind.u8.wrap x2),.int .u8 (IntKind.u8.wrap x3)] hx rfl (World.news_of_block hb) ?_ (by decide) (by unfold maxLen;omega) (by omega) (by simp;omega) (w.heap.size+1) (by simp) ?_
 ·intro u hu;simp at hu;rcases hu with rfl|rfl|rfl<;>rfl
 ·intro g cap w' h1 h2 _ _
  refine h g cap w' ?_ (grownBy_drew_alloc h2)
  unfold Bys;rw[List.length_append,List.map_append]
  simp only[u8_wrap] at h1
  exact h1
theorem number_any (l:List Int) (v:Value) (B:Nat) (w:World) (hd:Dig l) (h:Ints w B v l) (hlen:l.length≤1073741824):
  Calls Tryz.prog 95 #[v] w fun e w'=>e= .returned (.string (nb (dv l).toNat))∧Below w.heap.size w w':=by
 obtain⟨a,cap,rfl,hc,hm,hcell⟩:=h.open;unfold maxLen at hm;have Hcell:=Lib.hid hcell;clear hcell
 go_enter Tryz.func95,Tryz.ntmps95
 go_wp2
 go_loopw [3,4] (fun v en wr=> ∃(bs:List UInt8) (m:Nat),Bys wr w.heap.size v bs∧m≤l.length∧(bval bs:Int)=dv (l.drop m)∧bs.length=3*(l.length-m)∧en= .int .i64 ((m:Int)-1)∧Below w.heap.size w wr) (fun _ en _=>(intOf en+1).toNat)
 case atStart=>exact⟨[],l.length,Bys.nil _ _,by omega,by simp[bval,dv],by simp,rfl,Below.refl _ _⟩
 case round=>
  obtain⟨bs,m,hb,hml,hval,hbl,rfl,hbel⟩:=hrel;have Hval:=Lib.hid hval;have Hbl:=Lib.hid hbl;clear hval hbl
  cases m with
  | zero=>
   have hcv:=hb.conv
   have hsz:(⟨bs.toArray⟩:ByteArray).size≤maxLen:=by have:=Hbl.out;simp[ByteArray.size,maxLen];omega
   have hv:bv ⟨bs.toArray⟩=(dv l).toNat:=by
    have:=Hval.out
    simp only[List.drop_zero] at this
    simp only[bv];omega
   have HV:=Lib.hid hv;clear hv
   go_wp2_with (go_at_call 92;refine(canon_any _ _ hsz).mono ?_;rintro e w' ⟨rfl,rfl⟩)
   go_ret
   exact⟨ret_str (by rw[HV.out]),hbel⟩
  |succ m=>
   obtain⟨g,hg1,hg2,rfl,hc1⟩:=Hcell.out m (by omega)
   have hc2:wr.cell? ⟨g,m,none⟩=some (.int .i64 l[m]):=by rw[hbel.cell (p:=⟨g,m,none⟩) hg2];exact hc1
   have hdm:=hd.get m (by omega)
   have em:((m+1:Nat):Int)-1=m:=by omega
   rw[em];clear em
   have h0:(0:Int)≤m:=by omega
   have h1:(m:Int)<l.length:=by omega
   generalize hz:l[m]=z at hc2 hdm;have HZ:=Lib.hid hz;clear hz;clear hc1
   go_wp2_with fail
   go_region_held3 (fun w'=>w'.cell? ⟨g,m,none⟩=some (.int .i64 z)) (first|go_keep|exact hg1.cell hc2 (hb.ne_own hg2)) (first|(refine step_app3 (by rfl) (by rfl) (by rfl) (by rfl) w.heap.size hb (by have:=Hbl.out;omega) hbel.size ?_;intro g1 cap1 w1 hb1 hg1))
   go_wp2
   go_roundw
   case rel=>exact⟨_,m,hb1,by omega,number_step (by omega) HZ.out hdm.1 hdm.2 Hval.out,by have:=Hbl.out;simp;omega,rfl,hbel.grown hg1 hbel.size hb.own⟩
   case measure=>first|(simp[intOf];done)|(simp[intOf];omega)
end Go.Proofs.YtinmmkcjjlconaaGreat
namespace Go.Proofs.YtinmmkcjjlconaaGreat
open Go.RowKit Pl
theorem app_u8 {w:World} {ops:Array Oper} {rest:List Oper} {o:Oper} {a:Act} {Q:Exit→Act→World→Prop} {s x:Operand} {v:Value} {l:List UInt8} {z:Int}
  (hgd:o.guard=none)
  (ho:o.op= .call {callee:=.builtin .append,args:= #[s,x],argTypes:= #[49,49]})
  (hs:a.eval s=v) (hx:a.eval x= .slice (some ⟨w.heap.size,0,none⟩) 1 1) (B:Nat) (hown:Bys w B v l)
  (hz0:0≤z) (hz1:z<256) (hlen:l.length<8589934592) (hB:B≤w.heap.size)
  (h: ∀v' w',Bys w' B v' (l++ [u8 z])→w.grownBy w' v.ownBlock→wpList Tryz.prog ops Q rest (a.put o.dst v') w'):wpList Tryz.prog ops Q (o::rest) a (w.alloc (.cells #[.int .u8 z] 5)):=by
 obtain⟨i0,hi,hy0,hy1,hy2⟩:=info_parts info_u8
 refine wpList_append_own _ hgd s x 49 ho B 5 i0 (.int .u8 0) 1 1 Tryz.underlying49 hi hy0 hy1 hy2 rfl (by decide) v _ _ hs (World.ownsRow.alloc hown _) ⟨w.heap.size,0,none⟩ 1 1 [.int .u8 z] hx rfl (cell_one_new _ _ _) ?_ (by unfold maxLen;omega) (by omega) (by simp;omega) ?_
 ·intro u hu;simp at hu;subst hu;rfl
 ·intro v' w' h1 h2 _
  refine h v' w' ?_ (grownBy_alloc_trans h2)
  unfold Bys;rw[List.length_append,List.map_append]
  have e:((u8 z).toNat:Int)=z:=by rw[u8_toNat];omega
  simp only[List.map_cons,List.map_nil,e]
  exact h1
theorem ofn_any (n:Int) (w:World) (h0:0≤n) (h1:n≤9223372036854775807):
  Calls Tryz.prog 59 #[.int .i64 n] w fun e w'=>e= .returned (.string (nb n.toNat))∧Below w.heap.size w w':=by
 go_enter Tryz.func59,Tryz.ntmps59
 go_wp2
 go_loopw [3,4] (fun v en wr=> ∃(bs:List UInt8) (m:Int),Bys wr w.heap.size v bs∧ -8≤m∧m≤56∧bs.length≤8∧(8*bs.length:Int)=56-m∧(bval bs:Int)=n/2^(m+8).toNat∧en= .int .i64 m∧Below w.heap.size w wr) (fun _ en _=>(intOf en+8).toNat)
 case atStart=>exact⟨[],56,Bys.nil _ _,by omega,by omega,by simp,by simp,by simp[bval];omega,rfl,Below.refl _ _⟩
 case round=>
  obtain⟨bs,m,hb,hm1,hm2,hbl,hbl2,hval,rfl,hbel⟩:=hrel;have Hval:=Lib.hid hval;have Hbl:=Lib.hid hbl2;clear hval hbl2;have hcv:=hb.conv
  have hsz:(⟨bs.toArray⟩:ByteArray).size≤maxLen:=by simp[ByteArray.size,maxLen];omega
  have hv:(¬0≤m∨¬0<n)→bv ⟨bs.toArray⟩=n.toNat:=by
   intro hor
   have h1:=Hval.out;have h2:=Hbl.out
   simp only[bv]
   rcases hor with h|h
   ·obtain rfl:m= -8:=by omega
    simp at h1;omega
   ·obtain rfl:n=0:=by omega
    simp at h1;simp[h1]
  have HV:=Lib.hid hv;clear hv
  by_cases hm:0≤m
  ·by_cases hn:0<n
   ·have hq:0≤n/2^m.toNat %256:=by omega
    have hq1:n/2^m.toNat %256<256:=by omega
    go_wp2_with (at_builtin;refine app_u8 (by rfl) (by rfl) (by rfl) (by rfl) w.heap.size hb hq hq1 (by omega) hbel.size ?_;intro v1 w1 hb1 hg1)
    go_roundw
    case rel=>exact⟨_,m-8,hb1,by omega,by omega,by have:=Hbl.out;simp;omega,by have:=Hbl.out;simp;omega,ofn_step hm Hval.out,rfl,hbel.grown hg1 hbel.size hb.own⟩
    case measure=>simp[intOf];omega
   ·have HW:=HV.out (.inr hn)
    have HX:=Lib.hid HW;clear HW
    go_wp2_with (go_at_call 92;refine(canon_any _ _ hsz).mono ?_;rintro e w' ⟨rfl,rfl⟩)
    go_ret
    exact⟨ret_str (by rw[HX.out]),hbel⟩
  ·have HW:=HV.out (.inl hm)
   have HX:=Lib.hid HW;clear HW
   go_wp2_with (go_at_call 92;refine(canon_any _ _ hsz).mono ?_;rintro e w' ⟨rfl,rfl⟩)
   go_ret
   exact⟨ret_str (by rw[HX.out]),hbel⟩
theorem ret2{a b:Value}{c d:Value}(h:a=c)(h':b=d):Ending.returned (.tuple #[a,b])= .returned (.tuple #[c,d]):=by rw[h,h']
theorem int_yes (s:ByteArray) (w:World) (hs:s.size≤4294967296) (h1:bv s<9223372036854775808):
  Calls Tryz.prog 115 #[.string s] w fun e w'=>e= .returned (.tuple #[.int .i64 (bv s),.bool true])∧w=w':=by
 have hm:s.size≤maxLen:=by unfold maxLen;omega
 have h8:(nb (bv s)).size≤8:=size8.2 (by omega)
 go_enter Tryz.func115,Tryz.ntmps115
 go_wp2_with fail
 refine(canon_any _ _ hm).mono ?_
 rintro e w' ⟨rfl,rfl⟩;generalize hN:bv s=n at h1 h8;have HN:=Lib.hid hN;clear hN hm hs;have H1:=Lib.hid h1;clear h1
 rcases Nat.lt_or_ge (nb n).size 8 with hc|hc
 all_goals
  try have h127:(nb n)[0].toNat≤127:=by rw[top8 (by omega)];have:=H1.out;omega
  go_wp2_with fail
  go_loop [4,5] (fun d k=> ∃kk:Nat,kk≤(nb n).size∧d= .int .i64 (tk (nb n) kk)∧k= .int .i64 kk) (fun _ k=>(nb n).size-(intOf k).toNat)
  case atStart=>exact⟨0,by omega,by rw[tk_zero];rfl,rfl⟩
  case round=>
   obtain⟨kk,hk,rfl,rfl⟩:=hrel
   by_cases hlt:kk<(nb n).size
   ·have hb:=(nb n)[kk].toNat_lt
    have hx:=tkmul_lt H1.out hlt;have hy:=tk_succ (nb n) kk hlt;have HY:=Lib.hid hy;clear hy
    go_wp2
    go_round
    case rel=>exact⟨kk+1,by omega,val_int (by rw[HY.out];simp),by go_num⟩
    case measure=>simp[intOf];omega
   ·go_wp2
    go_ret2
    exact⟨ret2 (val_int (by rw[HN.out,show kk=(nb n).size by omega,tk_size,bv_nb])) rfl,rfl⟩
theorem small_yes (s:ByteArray) (k:Int) (w:World) (hs:s.size≤4294967296) (h1:bv s<9223372036854775808) (hk:(nb (bv s)).size≤k):
  Calls Tryz.prog 93 #[.string s,.int .i64 k] w fun e w'=>e= .returned (.tuple #[.int .i64 (bv s),.bool true])∧w=w':=by
 have hm:s.size≤maxLen:=by unfold maxLen;omega
 go_enter Tryz.func93,Tryz.ntmps93
 go_wp2_with fail
 refine(canon_any _ _ hm).mono ?_
 rintro e w' ⟨rfl,rfl⟩
 go_wp2_with fail
 refine(int_yes _ _ hs h1).mono ?_
 rintro e w' ⟨rfl,rfl⟩
 go_wp2_with fail
 go_ret2
 exact⟨rfl,rfl⟩
theorem small_no (s:ByteArray) (k:Int) (w:World) (hs:s.size≤4294967296) (hk:k<(nb (bv s)).size):
  Calls Tryz.prog 93 #[.string s,.int .i64 k] w fun e w'=>e= .returned (.tuple #[.int .i64 0,.bool false])∧w=w':=by
 have hm:s.size≤maxLen:=by unfold maxLen;omega
 go_enter Tryz.func93,Tryz.ntmps93
 go_wp2_with fail
 refine(canon_any _ _ hm).mono ?_
 rintro e w' ⟨rfl,rfl⟩
 go_wp2_with fail
 go_ret2
 exact⟨rfl,rfl⟩
end Go.Proofs.YtinmmkcjjlconaaGreat
namespace Go.Proofs.YtinmmkcjjlconaaGreat
open Go.RowKit Pl
theorem Ints.below {w w':World} {B:Nat} {v:Value} {l:List Int} (h:Ints w B v l) (hb:Below w.heap.size w w'):Ints w' B v l:=by
 refine⟨h.1,?_⟩
 rcases h.2 with h2|⟨g,cap,cur,hv,hg,hh,r⟩
 ·exact .inl h2
 ·exact .inr ⟨g,cap,cur,hv,hg,by rw[hb.block g (Array.getElem?_eq_some_iff.1 hh).1];exact hh,r⟩
theorem Ints.low {w:World} {B B':Nat} {v:Value} {l:List Int} (h:Ints w B v l) (hb:B'≤B):Ints w B' v l:=by
 refine⟨h.1,?_⟩
 rcases h.2 with h2|⟨g,cap,cur,hv,hg,r⟩
 ·exact .inl h2
 ·exact .inr ⟨g,cap,cur,hv,by omega,r⟩
theorem times_any (u:List Int) (v:Value) (d:Int) (B:Nat) (w:World) (hu:Dig u) (h:Ints w B v u) (hd0:0≤d) (hd1:d<16777216) (hlen:u.length≤4294967296):
  Calls Tryz.prog 119 #[v,.int .i64 d] w fun e w'=>RetInts w.heap.size (digs (dv u*d).toNat) e w'∧Below w.heap.size w w':=by
 obtain⟨a,cap,rfl,hc,hm,hcell⟩:=h.open;unfold maxLen at hm;have Hcell:=Lib.hid hcell;clear hcell
 go_enter Tryz.func119,Tryz.ntmps119
 go_wp2
 go_loopw [5,6,7] (fun v c k wr=> ∃(out:List Int) (cc:Int) (kk:Nat),Ints wr w.heap.size v out∧TI u d kk out cc∧kk≤u.length∧c= .int .i64 cc∧k= .int .i64 kk∧Below w.heap.size w wr) (fun _ _ k _=>u.length-(intOf k).toNat)
 case atStart=>exact⟨[],0,0,Ints.nil _ _,TI.start u hd0,by omega,rfl,rfl,Below.refl _ _⟩
 case round=>
  obtain⟨out,cc,kk,ho,hti,hkl,rfl,rfl,hbel⟩:=hrel
  have hol:out.length≤4294967296:=by have:=hti.2.1;omega
  have hcc:=hti.2.2.1;have hcd:=hti.2.2.2.1
  by_cases hlt:kk<u.length
  ·obtain⟨g,hg1,hg2,rfl,hc1⟩:=Hcell.out kk hlt
   have hc2:wr.cell? ⟨g,kk,none⟩=some (.int .i64 u[kk]):=by rw[hbel.cell (p:=⟨g,kk,none⟩) hg2];exact hc1
   have hbd:=hti.bound hu hd1 hlt;have hnx:=hti.succ hu hd1 hlt;obtain⟨b1,b2,b3,b4⟩:=hbd;generalize u[kk]=z at hc2 b1 b2 b3 b4 hnx;clear hc1
   go_wp2_with (at_builtin;refine app_int (by rfl) (by rfl) (by rfl) (by rfl) w.heap.size ho (by omega) hbel.size ?_;intro v1 w1 ho1 hg1)
   go_roundw
   case rel=>exact⟨_,_,kk+1,ho1,hnx,by omega,rfl,by go_num,hbel.grown hg1 hbel.size ho.own⟩
   case measure=>simp[intOf];omega
  ·have hdone:=TI.done (by rw[show u.length=kk by omega];exact hti) hd1
   go_wp2_with (first|(at_builtin;refine app_int (by rfl) (by rfl) (by rfl) (by rfl) w.heap.size ho (by omega) hbel.size ?_;intro v1 w1 ho1 hg1)|(go_at_call 116;refine(trim_any _ _ _ _ hdone.1 ho1).mono ?_;rintro e w' ⟨⟨v2,rfl,hv2⟩,rfl⟩))
   go_ret
   exact⟨⟨_,rfl,hv2.of_eq (by rw[hdone.2])⟩,hbel.grown hg1 hbel.size ho.own⟩
theorem minus_any (u v:List Int) (vu vv:Value) (B:Nat) (w:World) (hu:Dig u) (hv:Dig v) (h:Ints w B vu u) (h':Ints w B vv v) (hl:v.length≤u.length) (hle:dv v≤dv u) (hlen:u.length≤4294967296):
  Calls Tryz.prog 104 #[vu,vv] w fun e w'=>RetInts w.heap.size (digs (dv u-dv v).toNat) e w'∧Below w.heap.size w w':=by
 obtain⟨a,cap,rfl,hc,hm,hcell⟩:=h.open;obtain⟨a',cap',rfl,hc',hm',hcell'⟩:=h'.open;unfold maxLen at hm hm';have Hcell:=Lib.hid hcell;have Hcell':=Lib.hid hcell';have Hle:=Lib.hid hle;clear hcell hcell' hle
 go_enter Tryz.func104,Tryz.ntmps104
 go_wp2
 go_loopw [5,6,7] (fun x c k wr=> ∃(out:List Int) (b:Int) (kk:Nat),Ints wr w.heap.size x out∧MI u v kk out b∧kk≤u.length∧c= .int .i64 b∧k= .int .i64 kk∧Below w.heap.size w wr) (fun _ _ k _=>u.length-(intOf k).toNat)
 case atStart=>exact⟨[],0,0,Ints.nil _ _,MI.start u v,by omega,rfl,rfl,Below.refl _ _⟩
 case round=>
  obtain⟨out,b,kk,ho,hmi,hkl,rfl,rfl,hbel⟩:=hrel
  have hol:out.length≤4294967296:=by have:=hmi.2.1;omega
  have hb0:=hmi.2.2.1;have hb1:=hmi.2.2.2.1
  by_cases hlt:kk<u.length
  ·obtain⟨g,hg1,hg2,rfl,hc1⟩:=Hcell.out kk hlt
   have hc2:wr.cell? ⟨g,kk,none⟩=some (.int .i64 u[kk]):=by rw[hbel.cell (p:=⟨g,kk,none⟩) hg2];exact hc1
   have hz:=hu.get kk hlt;have hg:=gd_bound hv kk;have hnx:=fun d b'=>hmi.succ (d:=d) (b':=b') hlt;have Hnx:=Lib.hid hnx;clear hnx;obtain⟨z0,z1⟩:=hz;obtain⟨y0,y1⟩:=hg;clear hc1
   by_cases hlv:kk<v.length
   ·obtain⟨g',hg1',hg2',rfl,hc1'⟩:=Hcell'.out kk hlv
    have hc2':wr.cell? ⟨g',kk,none⟩=some (.int .i64 v[kk]):=by rw[hbel.cell (p:=⟨g',kk,none⟩) hg2'];exact hc1'
    rw[gd_lt hlv] at y0 y1;rw[gd_lt hlv] at Hnx;generalize v[kk]=y at hc2' y0 y1 Hnx;generalize u[kk]=z at hc2 z0 z1 Hnx;clear hc1'
    by_cases hneg:z-b-y<0
    all_goals
     go_wp2_with (at_builtin;refine app_int (by rfl) (by rfl) (by rfl) (by rfl) w.heap.size ho (by omega) hbel.size ?_;intro v1 w1 ho1 hg1)
     go_roundw
     case rel=>exact⟨_,_,kk+1,ho1,Hnx.out _ _ (by omega) (by omega) (by omega) (by omega) (by omega),by omega,rfl,by go_num,hbel.grown hg1 hbel.size ho.own⟩
     case measure=>simp[intOf];omega
   ·rw[gd_ge hlv] at Hnx
    generalize u[kk]=z at hc2 z0 z1 Hnx
    by_cases hneg:z-b<0
    all_goals
     go_wp2_with (at_builtin;refine app_int (by rfl) (by rfl) (by rfl) (by rfl) w.heap.size ho (by omega) hbel.size ?_;intro v1 w1 ho1 hg1)
     go_roundw
     case rel=>exact⟨_,_,kk+1,ho1,Hnx.out _ _ (by omega) (by omega) (by omega) (by omega) (by omega),by omega,rfl,by go_num,hbel.grown hg1 hbel.size ho.own⟩
     case measure=>simp[intOf];omega
  ·have hdone:=MI.done (by rw[show u.length=kk by omega];exact hmi) hl Hle.out
   obtain⟨hd1,hd2⟩:=hdone;have Hd2:=Lib.hid hd2;clear hd2
   go_wp2_with (go_at_call 116;refine(trim_any _ _ _ _ hd1 ho).mono ?_;rintro e w' ⟨⟨v2,rfl,hv2⟩,rfl⟩)
   go_ret
   exact⟨⟨_,rfl,hv2.of_eq (by rw[Hd2.out])⟩,hbel⟩
def RetCmp(a b:Nat)(e:Ending):Prop:= ∃z:Int,e= .returned (.int .i64 z)∧CmpSays a b z
theorem cmpd_any (x y:Nat) (vu vv:Value) (B:Nat) (w:World) (h:Ints w B vu (digs x)) (h':Ints w B vv (digs y)):
  Calls Tryz.prog 117 #[vu,vv] w fun e w'=>RetCmp x y e∧Below w.heap.size w w':=by
 obtain⟨a,cap,rfl,hc,hm,hcell⟩:=h.open;obtain⟨a',cap',rfl,hc',hm',hcell'⟩:=h'.open;unfold maxLen at hm hm';have Hcell:=Lib.hid hcell;have Hcell':=Lib.hid hcell';clear hcell hcell';have l1:=fun h=>cmp_len (a:=x) (b:=y) h;have l2:=fun h=>cmp_len (a:=y) (b:=x) h;have l3:=fun h=>CI.start (a:=x) (b:=y) h;have L1:=Lib.hid l1;have L2:=Lib.hid l2;have L3:=Lib.hid l3
 clear l1 l2 l3
 by_cases hlen:(digs x).length=(digs y).length
 ·have hci:=L3.out hlen
  have h1:(digs x).length≤(digs y).length:=by omega
  have h2:(digs y).length≤(digs x).length:=by omega
  have hnl:(((digs x).length:Int) !=((digs y).length:Int))=false:=by simp[hlen]
  have Hlen:=Lib.hid hlen;clear hlen
  go_enter Tryz.func117,Tryz.ntmps117
  go_wp2
  go_loopw [5] (fun k wr=> ∃m:Nat,m≤(digs x).length∧CI x y m∧k= .int .i64 ((m:Int)-1)∧Below w.heap.size w wr) (fun k _=>(intOf k+1).toNat)
  case atStart=>exact⟨_,Nat.le_refl _,hci,rfl,Below.refl _ _⟩
  case round=>
   obtain⟨m,hml,hC,rfl,hbel⟩:=hrel
   cases m with
   |zero=>
    go_wp2
    go_ret
    exact⟨⟨_,rfl,.inr (.inl ⟨rfl,hC.done⟩)⟩,hbel⟩
   | succ m=>
    obtain⟨g,hg1,hg2,rfl,hc1⟩:=Hcell.out m (by omega)
    obtain⟨g',hg1',hg2',rfl,hc1'⟩:=Hcell'.out m (by omega)
    have hc2:wr.cell? ⟨g,m,none⟩=some (.int .i64 (digs x)[m]):=by rw[hbel.cell (p:=⟨g,m,none⟩) hg2];exact hc1
    have hc2':wr.cell? ⟨g',m,none⟩=some (.int .i64 (digs y)[m]):=by rw[hbel.cell (p:=⟨g',m,none⟩) hg2'];exact hc1'
    have em:((m+1:Nat):Int)-1=m:=by omega
    rw[em];clear em hc1 hc1'
    have h0:(0:Int)≤m:=by omega
    have h1:(m:Int)<(digs x).length:=by omega
    have h1':(m:Int)<(digs y).length:=by omega
    have b1:=(digs_dig x).get m (by omega)
    have b2:=(digs_dig y).get m (by omega)
    have r1:(digs x)[m]<(digs y)[m]→x<y:=fun h=>hC.lt (by omega) (by omega) h
    have r2:(digs y)[m]<(digs x)[m]→y<x:=fun h=>hC.symm.lt (by omega) (by omega) h
    have r3:(digs x)[m]=(digs y)[m]→CI x y m:=fun h=>hC.succ (by omega) (by omega) h
    have R1:=Lib.hid r1;have R2:=Lib.hid r2;have R3:=Lib.hid r3;clear r1 r2 r3 hC;generalize (digs x)[m]=p at*;generalize (digs y)[m]=q at*;obtain⟨b1,b1'⟩:=b1;obtain⟨b2,b2'⟩:=b2
    by_cases hpq:p=q
    ·have hne:(p !=q)=false:=by simp[hpq]
     have R4:=Lib.hid (R3.out hpq);clear hpq
     go_wp2
     go_quiet (fail)
     go_wp2
     go_roundw
     case rel=>exact⟨m,by omega,R4.out,rfl,below_drewN hbel _⟩
     case measure=>first|(simp[intOf];done)|(simp[intOf];omega)
    ·have hne:(p !=q)=true:=by simp[hpq]
     go_wp2
     go_quiet (fail)
     go_wp2
     go_quiet (fail)
     go_wp2
     go_ret
     exact⟨⟨_,rfl,cmp_diff hpq R1.out R2.out⟩,below_drewN (below_drewN hbel _) _⟩
 ·have hnl:(((digs x).length:Int) !=((digs y).length:Int))=true:=by simp[Int.natCast_inj,hlen]
  rcases Nat.lt_or_gt_of_ne hlen with hlt|hlt
  ·have hs:=Lib.hid (L1.out hlt)
   clear hlen
   go_enter Tryz.func117,Tryz.ntmps117
   go_wp2
   go_ret
   exact⟨⟨_,rfl,.inl ⟨by omega,hs.out⟩⟩,Below.refl _ _⟩
  ·have hs:=Lib.hid (L2.out hlt)
   clear hlen
   go_enter Tryz.func117,Tryz.ntmps117
   go_wp2
   go_ret
   exact⟨⟨_,rfl,.inr (.inr ⟨by omega,hs.out⟩)⟩,Below.refl _ _⟩
theorem digit_any (x y:Nat) (vu vv:Value) (B:Nat) (w:World) (h:Ints w B vu (digs x)) (h':Ints w B vv (digs y)) (hy:0<y) (hxy:x<y*16777216) (hlen:(digs y).length≤4294967296):
  Calls Tryz.prog 118 #[vu,vv] w fun e w'=>e= .returned (.int .i64 ((x/y:Nat):Int))∧Below w.heap.size w w':=by
 go_enter Tryz.func118,Tryz.ntmps118
 go_wp2
 go_loopw [5,6] (fun lo hi wr=> ∃l u:Int,DI x y l u∧lo= .int .i64 l∧hi= .int .i64 u∧Below w.heap.size w wr) (fun lo hi _=>(intOf hi-intOf lo).toNat)
 case atStart=>exact⟨0,16777215,DI.start hxy,rfl,rfl,Below.refl _ _⟩
 case round=>
  obtain⟨l,u,hD,rfl,rfl,hbel⟩:=hrel;have d1:=hD.1;have d2:=hD.2.1;have d3:=hD.2.2.1
  by_cases hlt:l<u
  ·go_wp2_with fail
   generalize hmid:(l+u+1)/2=m
   have m1:l<m:=by omega
   have m2:m≤u:=by omega
   clear hmid
   refine(times_any (digs y) _ m B _ (digs_dig y) (h'.below hbel) (by omega) (by omega) hlen).mono ?_
   rintro e w1 ⟨⟨v1,rfl,hv1⟩,hb1⟩;have hb2:=hbel.tr hb1
   go_wp2_with fail
   refine(cmpd_any _ x v1 vu 0 _ (hv1.low (Nat.zero_le _)) ((h.low (Nat.zero_le _)).below hb2)).mono ?_
   rintro e w2 ⟨⟨z,rfl,hz⟩,hb3⟩;have hb4:=hb2.tr hb3
   have hle:=mul_digs_le y x m (by omega)
   have hup:=fun h=>hD.up (m:=m) (by omega) m2 h
   have hdn:=fun h=>hD.down (m:=m) (by omega) m2 h
   have hcs:=hz.le
   by_cases hz0:z≤0
   ·have HU:=Lib.hid (hup (hle.1 (hcs.1 hz0)))
    clear hup hdn hle hcs
    go_wp2_with fail
    go_roundw
    case rel=>exact⟨m,u,HU.out,rfl,rfl,hb4⟩
    case measure=>simp[intOf];omega
   ·have HU:=Lib.hid (hdn (by have:=mt hle.2 (mt hcs.2 hz0);omega))
    clear hup hdn hle hcs
    go_wp2_with fail
    go_roundw
    case rel=>exact⟨l,m-1,HU.out,rfl,rfl,hb4⟩
    case measure=>simp[intOf];omega
  ·obtain rfl:l=u:=by omega
   go_wp2
   go_ret
   exact⟨ret_int (hD.done hy),hbel⟩
end Go.Proofs.YtinmmkcjjlconaaGreat
namespace Go.Proofs.YtinmmkcjjlconaaGreat
open Go.RowKit Pl
theorem add_quick (s t:ByteArray) (w:World) (hs:s.size≤4294967296) (ht:t.size≤4294967296) (h1:bv s<72057594037927936) (h2:bv t<72057594037927936):
  Calls Tryz.prog 60 #[.string s,.string t] w fun e w'=>e= .returned (.string (nb (bv s+bv t)))∧Below w.heap.size w w':=by
 have q1:=size7.2 h1;have q2:=size7.2 h2
 go_enter Tryz.func60,Tryz.ntmps60
 go_wp2_with fail
 refine(small_yes s 7 _ hs (by omega) (by omega)).mono ?_
 rintro e w' ⟨rfl,rfl⟩
 go_wp2_with fail
 refine(small_yes t 7 _ ht (by omega) (by omega)).mono ?_
 rintro e w' ⟨rfl,rfl⟩
 go_wp2_with fail
 refine(ofn_any _ _ (by omega) (by omega)).mono ?_
 rintro e w' ⟨rfl,hb⟩
 go_wp2_with fail
 go_ret
 exact⟨rfl,hb⟩
theorem add_long (s t:ByteArray) (w:World) (hs:s.size≤1073741823) (ht:t.size≤1073741823) (h1: ¬(bv s<72057594037927936∧bv t<72057594037927936)):
  Calls Tryz.prog 60 #[.string s,.string t] w fun e w'=>e= .returned (.string (nb (bv s+bv t)))∧Below w.heap.size w w':=by
 have q1:=size7 (n:=bv s);have q2:=size7 (n:=bv t)
 have hcase:((nb (bv s)).size≤7∧7<(nb (bv t)).size)∨(7<(nb (bv s)).size∧(nb (bv t)).size≤7)∨(7<(nb (bv s)).size∧7<(nb (bv t)).size):=by omega
 have c1:(nb (bv s)).size≤7→bv s<9223372036854775808:=by omega
 have c2:(nb (bv t)).size≤7→bv t<9223372036854775808:=by omega
 have C1:=Lib.hid c1;have C2:=Lib.hid c2;have l1:=digs_len_bv s;have l2:=digs_len_bv t;clear q1 q2 h1 c1 c2
 go_enter Tryz.func60,Tryz.ntmps60
 rcases hcase with⟨q1,q2⟩|⟨q1,q2⟩|⟨q1,q2⟩
 all_goals
  go_wp2_with fail
  first|refine(small_yes s 7 _ (by omega) (C1.out q1) (by omega)).mono ?_|refine(small_no s 7 _ (by omega) (by omega)).mono ?_
  rintro e w' ⟨rfl,rfl⟩
  go_wp2_with fail
  first|refine(small_yes t 7 _ (by omega) (C2.out q2) (by omega)).mono ?_|refine(small_no t 7 _ (by omega) (by omega)).mono ?_
  rintro e w' ⟨rfl,rfl⟩
  go_wp2_with fail
  refine(of_any s _ (by omega)).mono ?_
  rintro e w1 ⟨⟨v1,rfl,hv1⟩,hb1⟩
  go_wp2_with fail
  refine(of_any t _ (by omega)).mono ?_
  rintro e w2 ⟨⟨v2,rfl,hv2⟩,hb2⟩;have hb:=hb1.tr hb2;have hv1':=hv1.below hb2;clear hv1;obtain⟨a,cap,rfl,hc,hm,hcell⟩:=hv1'.open;obtain⟨a',cap',rfl,hc',hm',hcell'⟩:=hv2.open;unfold maxLen at hm hm';have Hcell:=Lib.hid hcell;have Hcell':=Lib.hid hcell';clear hcell hcell';have hu:=digs_dig (bv s);have hv:=digs_dig (bv t);have e1:=dv_digs (bv s)
  have e2:=dv_digs (bv t);have E1:=Lib.hid e1;have E2:=Lib.hid e2;clear e1 e2;generalize digs (bv s)=u at*;generalize digs (bv t)=v at*
  go_wp2_with fail
  go_loopw [11,12,13] (fun x c k wr=> ∃(out:List Int) (b:Int) (kk:Nat),Ints wr w2.heap.size x out∧AI u v kk out b∧c= .int .i64 b∧k= .int .i64 kk∧Below w2.heap.size w2 wr) (fun _ _ k _=>max u.length v.length+1-(intOf k).toNat)
  case atStart=>exact⟨[],0,0,Ints.nil _ _,AI.start u v,rfl,rfl,Below.refl _ _⟩
  case round=>
   obtain⟨out,c,kk,ho,hai,rfl,rfl,hbel⟩:=hrel
   have hkk:kk≤1073741824:=by have:=hai.2.2.2.2.2;omega
   have hol:out.length≤1073741824:=by have:=hai.2.1;omega
   have hc0:=hai.2.2.1;have hc1:=hai.2.2.2.1
   have hbig:kk≤max u.length v.length∨c≤0:=by have:=hai.2.2.2.2.2;omega
   have hwz:w.heap.size≤wr.heap.size:=Nat.le_trans hb.size hbel.size
   by_cases hgo:kk<u.length∨kk<v.length∨0<c
   ·have hnx:=hai.succ hu hv hgo
    have y1:=gd_bound hu kk;have y2:=gd_bound hv kk;obtain⟨y1,y1'⟩:=y1;obtain⟨y2,y2'⟩:=y2
    by_cases p1:kk<u.length
    ·obtain⟨g,_,hg2,rfl,hc1⟩:=Hcell.out kk p1
     have hc2:wr.cell? ⟨g,kk,none⟩=some (.int .i64 u[kk]):=by rw[hbel.cell (p:=⟨g,kk,none⟩) hg2];exact hc1
     rw[gd_lt p1] at y1 y1' hnx;generalize u[kk]=z at hc2 y1 y1' hnx;clear hc1
     by_cases p2:kk<v.length
     ·obtain⟨g',_,hg2',rfl,hc1'⟩:=Hcell'.out kk p2
      have hc2':wr.cell? ⟨g',kk,none⟩=some (.int .i64 v[kk]):=by rw[hbel.cell (p:=⟨g',kk,none⟩) hg2'];exact hc1'
      rw[gd_lt p2] at y2 y2' hnx;generalize v[kk]=y at hc2' y2 y2' hnx;clear hc1'
      go_wp2_with (at_builtin;refine app_int (by rfl) (by rfl) (by rfl) (by rfl) w2.heap.size ho (by omega) hbel.size ?_;intro v1 w1 ho1 hg1)
      go_roundw
      case rel=>exact⟨_,_,kk+1,ho1,hnx,rfl,by go_num,hbel.grown hg1 hbel.size ho.own⟩
      case measure=>simp[intOf];omega
     ·rw[gd_ge p2,Int.add_zero] at hnx
      go_wp2_with (at_builtin;refine app_int (by rfl) (by rfl) (by rfl) (by rfl) w2.heap.size ho (by omega) hbel.size ?_;intro v1 w1 ho1 hg1)
      go_roundw
      case rel=>exact⟨_,_,kk+1,ho1,hnx,rfl,by go_num,hbel.grown hg1 hbel.size ho.own⟩
      case measure=>simp[intOf];omega
    ·rw[gd_ge p1,Int.add_zero] at hnx
     by_cases p2:kk<v.length
     ·obtain⟨g',_,hg2',rfl,hc1'⟩:=Hcell'.out kk p2
      have hc2':wr.cell? ⟨g',kk,none⟩=some (.int .i64 v[kk]):=by rw[hbel.cell (p:=⟨g',kk,none⟩) hg2'];exact hc1'
      rw[gd_lt p2] at y2 y2' hnx;generalize v[kk]=y at hc2' y2 y2' hnx;clear hc1'
      go_wp2_with (at_builtin;refine app_int (by rfl) (by rfl) (by rfl) (by rfl) w2.heap.size ho (by omega) hbel.size ?_;intro v1 w1 ho1 hg1)
      go_roundw
      case rel=>exact⟨_,_,kk+1,ho1,hnx,rfl,by go_num,hbel.grown hg1 hbel.size ho.own⟩
      case measure=>simp[intOf];omega
     ·rw[gd_ge p2,Int.add_zero] at hnx
      have p3:0<c:=by omega
      go_wp2_with (at_builtin;refine app_int (by rfl) (by rfl) (by rfl) (by rfl) w2.heap.size ho (by omega) hbel.size ?_;intro v1 w1 ho1 hg1)
      go_roundw
      case rel=>exact⟨_,_,kk+1,ho1,hnx,rfl,by go_num,hbel.grown hg1 hbel.size ho.own⟩
      case measure=>simp[intOf];omega
   ·have g1: ¬kk<u.length:=fun h=>hgo (.inl h)
    have g2: ¬kk<v.length:=fun h=>hgo (.inr (.inl h));have g3: ¬0<c:=fun h=>hgo (.inr (.inr h));obtain⟨d1,d2⟩:=hai.done g1 g2 g3;have D2:=Lib.hid d2;clear d2
    go_wp2_with (go_at_call 95;refine(number_any _ _ _ _ d1 ho (by omega)).mono ?_;rintro e w3 ⟨rfl,hb3⟩)
    go_ret
    exact⟨ret_str (by congr 1;rw[D2.out,E1.out,E2.out];omega),(hb.tr hbel).trans (hb3.mono hwz)⟩
theorem cmps_any (s t:ByteArray) (w:World) (hs:s.size≤4294967296) (ht:t.size≤4294967296):
  Calls Tryz.prog 71 #[.string s,.string t] w fun e w'=>e= .returned (.int .i64 (cmpN (bv s) (bv t)))∧w=w':=by
 have hms:s.size≤maxLen:=by unfold maxLen;omega
 have hmt:t.size≤maxLen:=by unfold maxLen;omega
 go_enter Tryz.func71,Tryz.ntmps71
 go_wp2_with fail
 refine(canon_any s _ hms).mono ?_
 rintro e w' ⟨rfl,rfl⟩
 go_wp2_with fail
 refine(canon_any t _ hmt).mono ?_
 rintro e w' ⟨rfl,rfl⟩;generalize hx:bv s=x;generalize hy:bv t=y;have HX:=Lib.hid hx;have HY:=Lib.hid hy;clear hx hy hs ht hms hmt
 by_cases hsz:(nb x).size=(nb y).size
 ·have hne:(((nb x).size:Int) !=((nb y).size:Int))=false:=by simp[hsz]
  have h1:=nb_less hsz;have h2:=nb_eq (a:=x) (b:=y);clear hsz
  rcases Nat.lt_trichotomy x y with hlt|hlt|hlt
  ·have h1':Op.bytesLess (nb x).toList (nb y).toList=true:=by rw[h1];simp[hlt]
   clear h1 h2
   go_wp2_with fail
   go_ret
   exact⟨ret_int (by rw[HX.out,HY.out,cmpN_lt hlt]),rfl⟩
  ·have h1':Op.bytesLess (nb x).toList (nb y).toList=false:=by rw[h1];simp;omega
   have h2':((nb x).toList==(nb y).toList)=true:=by rw[h2];simp[hlt]
   have Hl:=Lib.hid hlt;clear h1 h2 hlt
   go_wp2_with fail
   go_ret
   exact⟨ret_int (by rw[HX.out,HY.out,cmpN_eq Hl.out]),rfl⟩
  ·have h1':Op.bytesLess (nb x).toList (nb y).toList=false:=by rw[h1];simp;omega
   have h2':((nb x).toList==(nb y).toList)=false:=by rw[h2];simp;omega
   clear h1 h2
   go_wp2_with fail
   go_ret
   exact⟨ret_int (by rw[HX.out,HY.out,cmpN_gt hlt]),rfl⟩
 ·have hne:(((nb x).size:Int) !=((nb y).size:Int))=true:=by simp[Int.natCast_inj,hsz]
  rcases Nat.lt_or_gt_of_ne hsz with hlt|hlt
  ·have hl:=nb_size_lt hlt
   clear hsz
   go_wp2_with fail
   go_ret
   exact⟨ret_int (by rw[HX.out,HY.out,cmpN_lt hl]),rfl⟩
  ·have hl:=nb_size_lt hlt
   clear hsz
   go_wp2_with fail
   go_ret
   exact⟨ret_int (by rw[HX.out,HY.out,cmpN_gt hl]),rfl⟩
theorem sub_yes (s t:ByteArray) (w:World) (hs:s.size≤1073741823) (ht:t.size≤1073741823) (h:bv t≤bv s):
  Calls Tryz.prog 72 #[.string s,.string t] w fun e w'=>e= .returned (.tuple #[.string (nb (bv s-bv t)),.bool true])∧Below w.heap.size w w':=by
 have hc:0≤cmpN (bv s) (bv t):=by unfold cmpN;split<;>(try split)<;>omega
 have l1:=digs_len_bv s
 have hl:(digs (bv t)).length≤(digs (bv s)).length:=by
  rcases Nat.lt_or_ge (digs (bv s)).length (digs (bv t)).length with h1|h1
  ·have:=cmp_len h1;omega
  ·exact h1
 go_enter Tryz.func72,Tryz.ntmps72
 go_wp2_with fail
 refine(cmps_any s t _ (by omega) (by omega)).mono ?_
 rintro e w' ⟨rfl,rfl⟩;generalize cmpN (bv s) (bv t)=c at hc
 go_wp2_with fail
 refine(of_any s _ (by omega)).mono ?_
 rintro e w1 ⟨⟨v1,rfl,hv1⟩,hb1⟩
 go_wp2_with fail
 refine(of_any t _ (by omega)).mono ?_
 rintro e w2 ⟨⟨v2,rfl,hv2⟩,hb2⟩;have hb:=hb1.tr hb2
 go_wp2_with fail
 refine(minus_any (digs (bv s)) (digs (bv t)) v1 v2 0 _ (digs_dig _) (digs_dig _) ((hv1.low (Nat.zero_le _)).below hb2) (hv2.low (Nat.zero_le _)) hl (by rw[dv_digs,dv_digs];omega) (by omega)).mono ?_
 rintro e w3 ⟨⟨v3,rfl,hv3⟩,hb3⟩;have hb':=hb.tr hb3;rw[dv_digs,dv_digs] at hv3
 go_wp2_with fail
 refine(number_any _ v3 _ _ (digs_dig _) hv3 ?_).mono ?_
 ·have hd:((bv s:Int)-(bv t:Int)).toNat≤bv s:=by omega
  have:(digs ((bv s:Int)-(bv t:Int)).toNat).length≤(digs (bv s)).length:=by
   rcases Nat.lt_or_ge (digs (bv s)).length (digs ((bv s:Int)-(bv t:Int)).toNat).length with h1|h1
   ·have:=cmp_len h1;omega
   ·exact h1
  omega
 rintro e w4 ⟨rfl,hb4⟩
 go_wp2_with fail
 go_ret2
 exact⟨ret2 (by rw[dv_digs];congr 2<;>omega) rfl,hb'.trans (hb4.mono hb'.size)⟩
end Go.Proofs.YtinmmkcjjlconaaGreat
namespace Go.Proofs.YtinmmkcjjlconaaGreat
open Go.RowKit Pl
def zrow(n:Nat):Array Value:=((List.replicate n (0:Int)).map (Value.int .i64)).toArray
theorem zrow_made (n:Nat):madeCells (Value.int .i64 0).cells (n*1)=zrow n:=by
 unfold madeCells zrow
 apply Array.ext
 ·simp
 ·intro k h1 h2
  simp[Value.cells,Nat.mod_one]
theorem run_mk (c:Int) (n:Nat) (h:c=n) (hn:n≤8589934592) (w:World):(Instr.makeSlice 81 (.int .i64 c) (.int .i64 c)).run Tryz.prog w= .ok (.slice (some ⟨w.heap.size,0,none⟩) n n) (w.alloc (.cells (zrow n) 3)):=by
 subst h;obtain⟨i0,hi,hz0,hz1,hz2⟩:=info_parts info_int
 have:=run_make (P:=Tryz.prog) w 81 3 i0 (.int .i64 0) Tryz.underlying81 hi hz0 .i64 .i64 n n (by omega) (by omega) (by rw[hz2];omega) (by omega)
 rw[this,hz1,Int.toNat_natCast,zrow_made]
theorem Ints.made (w:World) (n:Nat) (hn:n≤8589934592):Ints (w.alloc (.cells (zrow n) 3)) w.heap.size (.slice (some ⟨w.heap.size,0,none⟩) n n) (List.replicate n 0):=by
 refine⟨by simp,.inr ⟨w.heap.size,n,zrow n,by simp,Nat.le_refl _,heap_alloc_new w _,by simp,by unfold maxLen;omega,by simp[zrow],?_⟩⟩
 simp[zrow]
theorem Ints.at {w:World} {B g n cap:Nat} {l:List Int} (h:Ints w B (.slice (some ⟨g,0,none⟩) n cap) l) (k:Nat) (hk:k<l.length):
  w.cell? ⟨g,k,none⟩=some (.int .i64 l[k])∧w.frozen? ⟨g,k,none⟩=false:=by
 rcases h.2 with⟨hv,_⟩|⟨g',cap',cur,hv,hb,hg,hnc,hcm,hcs,htake⟩
 ·cases hv
 ·simp only[Value.slice.injEq,Option.some.injEq,Addr.mk.injEq] at hv
  obtain⟨⟨rfl,_⟩,_,rfl⟩:=hv
  refine⟨?_,?_⟩
  ·have:=h.cells (g:=g) rfl k (.int .i64 l[k]) (by simp[hk])
   have hadd:(⟨g,0,none⟩:Addr).add k=⟨g,k,none⟩:=by unfold Addr.add;split<;>simp_all
   rwa [hadd] at this
  ·simp[World.frozen?,hg]
theorem Ints.drewN{w:World}{B:Nat}{v:Value}{l:List Int}(h:Ints w B v l)(n:Nat):Ints (w.drewN n) B v l:=h.below (below_drewN (Below.refl _ _) n)
theorem Ints.set {w:World} {B g n cap:Nat} {l:List Int} (h:Ints w B (.slice (some ⟨g,0,none⟩) n cap) l) (k:Nat) (z:Int):
  Ints (w.setCell ⟨g,k,none⟩ (.int .i64 z)) B (.slice (some ⟨g,0,none⟩) n cap) (l.set k z):=by
 rcases h.2 with⟨hv,_⟩|⟨g',cap',cur,hv,hb,hg,hnc,hcm,hcs,htake⟩
 ·cases hv
 ·simp only[Value.slice.injEq,Option.some.injEq,Addr.mk.injEq] at hv
  obtain⟨⟨rfl,_⟩,rfl,rfl⟩:=hv
  refine⟨by simp,.inr ⟨g,cap,cur.setIfInBounds k (.int .i64 z),by simp,hb,?_,by simpa using hnc,hcm,by simpa using hcs,?_⟩⟩
  ·simp only[World.setCell,Array.getElem?_modify]
   simp[hg]
  ·rw[Array.toList_setIfInBounds,List.length_set,List.map_set,←htake]
   simp[List.take_set]
theorem mul_quick (s t:ByteArray) (w:World) (hs:s.size≤4294967296) (ht:t.size≤4294967296) (h1:bv s<16777216) (h2:bv t<4294967296):
  Calls Tryz.prog 64 #[.string s,.string t] w fun e w'=>e= .returned (.string (nb (bv s*bv t)))∧Below w.heap.size w w':=by
 have q1:=size3.2 h1;have q2:=size4.2 h2
 have p1:(0:Int)≤(bv s:Int)*(bv t:Int):=Int.mul_nonneg (by omega) (by omega)
 have p2:(bv s:Int)*(bv t:Int)≤16777215*(bv t:Int):=Int.mul_le_mul_of_nonneg_right (by omega) (by omega)
 go_enter Tryz.func64,Tryz.ntmps64
 go_wp2_with fail
 refine(small_yes s 3 _ hs (by omega) (by omega)).mono ?_
 rintro e w' ⟨rfl,rfl⟩
 go_wp2_with fail
 refine(small_yes t 4 _ ht (by omega) (by omega)).mono ?_
 rintro e w' ⟨rfl,rfl⟩
 go_wp2_with fail
 refine(ofn_any _ _ (by omega) (by omega)).mono ?_
 rintro e w' ⟨rfl,hb⟩
 go_wp2_with fail
 go_ret
 exact⟨ret_str (by congr 1),hb⟩
theorem mul_long (s t:ByteArray) (w:World) (hs:s.size≤134217728) (ht:t.size≤134217728) (h1: ¬(bv s<16777216∧bv t<4294967296)):
  Calls Tryz.prog 64 #[.string s,.string t] w fun e w'=>e= .returned (.string (nb (bv s*bv t)))∧Below w.heap.size w w':=by
 have q1:=size3 (n:=bv s);have q2:=size4 (n:=bv t)
 have hcase:((nb (bv s)).size≤3∧4<(nb (bv t)).size)∨(3<(nb (bv s)).size∧(nb (bv t)).size≤4)∨(3<(nb (bv s)).size∧4<(nb (bv t)).size):=by omega
 have c1:(nb (bv s)).size≤3→bv s<9223372036854775808:=by omega
 have c2:(nb (bv t)).size≤4→bv t<9223372036854775808:=by omega
 have C1:=Lib.hid c1;have C2:=Lib.hid c2;have l1:=digs_len_bv s;have l2:=digs_len_bv t;clear q1 q2 h1 c1 c2
 go_enter Tryz.func64,Tryz.ntmps64
 rcases hcase with⟨q1,q2⟩|⟨q1,q2⟩|⟨q1,q2⟩
 all_goals
  go_wp2_with fail
  first|refine(small_yes s 3 _ (by omega) (C1.out q1) (by omega)).mono ?_|refine(small_no s 3 _ (by omega) (by omega)).mono ?_
  rintro e w' ⟨rfl,rfl⟩
  go_wp2_with fail
  first|refine(small_yes t 4 _ (by omega) (C2.out q2) (by omega)).mono ?_|refine(small_no t 4 _ (by omega) (by omega)).mono ?_
  rintro e w' ⟨rfl,rfl⟩
  go_wp2_with fail
  refine(of_any s _ (by omega)).mono ?_
  rintro e w1 ⟨⟨v1,rfl,hv1⟩,hb1⟩
  go_wp2_with fail
  refine(of_any t _ (by omega)).mono ?_
  rintro e w2 ⟨⟨v2,rfl,hv2⟩,hb2⟩;have hb:=hb1.tr hb2;have hv1':=hv1.below hb2;clear hv1;obtain⟨a,cap,rfl,hc,hm,hcell⟩:=hv1'.open;obtain⟨a',cap',rfl,hc',hm',hcell'⟩:=hv2.open;unfold maxLen at hm hm';have Hcell:=Lib.hid hcell;have Hcell':=Lib.hid hcell';clear hcell hcell';have hu:=digs_dig (bv s);have hv:=digs_dig (bv t);have e1:=dv_digs (bv s)
  have e2:=dv_digs (bv t);have E1:=Lib.hid e1;have E2:=Lib.hid e2;clear e1 e2;generalize digs (bv s)=u at*;generalize digs (bv t)=v at*
  have hmk:=run_mk ((u.length:Int)+(v.length:Int)) (u.length+v.length) (by simp) (by omega)
  have hmade:=Ints.made w2 (u.length+v.length) (by omega)
  have Hmade:=Lib.hid hmade;clear hmade
  go_wp2_with fail
  clear hmk;generalize hg:w2.heap.size=g at*
  have hbw:Below g w2 (w2.alloc (.cells (zrow (u.length+v.length)) 3)):=(Below.refl _ _).alloc (by omega) _
  go_loopw [12] (fun i wr=> ∃(ii:Nat) (out:List Int),ii≤u.length∧Ints wr g (.slice (some ⟨g,0,none⟩) (u.length+v.length) (u.length+v.length)) out∧(∀x,XI u v ii 0 x out 0)∧i= .int .i64 ii∧Below g w2 wr∧g<wr.heap.size) (fun i _=>u.length-(intOf i).toNat)
  case atStart=>exact⟨0,_,by omega,Hmade.out,fun x=>XI.start u v x,rfl,hbw,by simp[hg]⟩
  case round=>
   obtain⟨i,out,hiu,ho,hxi,rfl,hbel,hgr⟩:=hrel;have hol:=(hxi 0).len;have Hol:=Lib.hid hol;have Hxi:=Lib.hid hxi;clear hol hxi
   by_cases hlt:i<u.length
   ·obtain⟨gu,_,hgu,rfl,hcu⟩:=Hcell.out i hlt
    have hcu':wr.cell? ⟨gu,i,none⟩=some (.int .i64 u[i]):=by rw[hbel.cell (p:=⟨gu,i,none⟩) hgu];exact hcu
    have hx:=hu.get i hlt;generalize hxe:u[i]=x at hcu hcu' hx;have HXE:=Lib.hid hxe;obtain⟨hx0,hx1⟩:=hx;have Hcu:=Lib.hid hcu;clear hcu hxe hcu';obtain⟨wo,rfl⟩: ∃wo:World,wo=wr:=⟨_,rfl⟩
    go_wp2_with fail
    go_loopw [13,14,15] (fun c j s wr=> ∃(jj:Nat) (cc:Int) (out:List Int),jj≤v.length∧Ints wr g (.slice (some ⟨g,0,none⟩) (u.length+v.length) (u.length+v.length)) out∧XI u v i jj x out cc∧c= .int .i64 cc∧j= .int .i64 jj∧Below g w2 wr∧g<wr.heap.size) (fun _ j _ _=>v.length-(intOf j).toNat)
    case atStart=>exact⟨0,0,out,by omega,ho,Hxi.out x,rfl,rfl,hbel,hgr⟩
    case round=>
     obtain⟨j,c,out,hjv,ho,hX,rfl,rfl,hbel,hgr⟩:=hrel;have hol:=hX.len;have Hol:=Lib.hid hol;clear hol;have hc0:=hX.c0;have hc1:=hX.c1
     by_cases hlt2:j<v.length
     ·obtain⟨gv,_,hgv,rfl,hcv⟩:=Hcell'.out j hlt2
      have hcv':wr.cell? ⟨gv,j,none⟩=some (.int .i64 v[j]):=by rw[hbel.cell (p:=⟨gv,j,none⟩) (by omega)];exact hcv
      have hcu'':wr.cell? ⟨gu,i,none⟩=some (.int .i64 x):=by rw[hbel.cell (p:=⟨gu,i,none⟩) (by omega)];exact Hcu.out
      have hij:i+j<out.length:=by have:=Hol.out;omega
      obtain⟨hcell,hfr⟩:=ho.at (i+j) hij;have hy:=hv.get j hlt2;generalize hye:v[j]=y at hcv hcv' hy;obtain⟨hy0,hy1⟩:=hy;have hnx:=hX.step hx0 hx1 hlt2 hye hy0 hy1 hij;have hbd:=hX.bound hx0 hx1 hy0 hy1 hij;have hset:=fun nq=>(ho.drewN nq).set (i+j) ((out[i+j]+x*y+c)%16777216);generalize out[i+j]=o at hcell hnx hbd hset;obtain⟨o0,o1,o2,o3,o4,o5⟩:=hbd
      have Hset:=Lib.hid hset;have Hnx:=Lib.hid hnx;clear hcv hye hset hnx
      have k0:(0:Int)≤(i:Int)+(j:Int):=by omega
      have k1:(i:Int)+(j:Int)<((u.length+v.length:Nat):Int):=by omega
      have k1':(i:Int)+(j:Int)<(u.length:Int)+(v.length:Int):=by omega
      have k2:((i:Int)+(j:Int)).toNat=i+j:=by omega
      have k3:IntKind.i64.wrap ((i:Int)+(j:Int))=(i:Int)+(j:Int):=IntWalk.i64_in _ (by omega)
      go_wp2_with fail
      go_quiet (fail)
      clear k3
      go_wp2
      go_roundw
      case rel=>exact⟨j+1,_,_,by omega,Hset.out nq,Hnx.out,rfl,by go_num,(below_drewN hbel nq).setCell (Nat.le_refl _) _,by simp[World.setCell];exact hgr⟩
      case measure=>simp[intOf];omega
     ·have hij:i+v.length<out.length:=by have:=Hol.out;omega
      obtain⟨hcell,hfr⟩:=ho.at (i+v.length) hij
      have hX':XI u v i v.length x out c:=by rw[show v.length=j by omega];exact hX
      have hnx:=fun x'=>hX'.next (x':=x') hlt HXE.out hij;have hset:=ho.set (i+v.length) c;generalize out[i+v.length]=o at hcell;have Hset:=Lib.hid hset;have Hnx:=Lib.hid hnx;clear hset hnx
      have k0:(0:Int)≤(i:Int)+(v.length:Int):=by omega
      have k1:(i:Int)+(v.length:Int)<((u.length+v.length:Nat):Int):=by omega
      have k1':(i:Int)+(v.length:Int)<(u.length:Int)+(v.length:Int):=by omega
      have k2:((i:Int)+(v.length:Int)).toNat=i+v.length:=by omega
      go_wp2
      go_roundw
      case rel=>exact⟨i+1,_,by omega,Hset.out,Hnx.out,by go_num,hbel.setCell (Nat.le_refl _) _,by simp[World.setCell];exact hgr⟩
      case measure=>simp[intOf];omega
   ·have hX:=Hxi.out 0
    have hdone:=XI.done (by rw[show u.length=i by omega];exact hX) rfl
    have HD:=Lib.hid hdone;have hdg:=hX.dig;clear hdone hX;have hbz:=hb.size
    go_wp2_with (go_at_call 95;refine(number_any _ _ _ _ hdg ho (by have:=Hol.out;omega)).mono ?_;rintro e w3 ⟨rfl,hb3⟩)
    go_ret
    exact⟨ret_str (by congr 1;rw[HD.out,E1.out,E2.out,←Int.natCast_mul];omega),(hb.trans (hbel.mono (by omega))).trans (hb3.mono (by omega))⟩
theorem add_any (s t:ByteArray) (w:World) (hs:s.size≤134217728) (ht:t.size≤134217728):
  Calls Tryz.prog 60 #[.string s,.string t] w fun e w'=>e= .returned (.string (nb (bv s+bv t)))∧Below w.heap.size w w':=by
 by_cases h:bv s<72057594037927936∧bv t<72057594037927936
 ·exact add_quick s t w (by omega) (by omega) h.1 h.2
 ·exact add_long s t w (by omega) (by omega) h
theorem mul_any (s t:ByteArray) (w:World) (hs:s.size≤134217728) (ht:t.size≤134217728):
  Calls Tryz.prog 64 #[.string s,.string t] w fun e w'=>e= .returned (.string (nb (bv s*bv t)))∧Below w.heap.size w w':=by
 by_cases h:bv s<16777216∧bv t<4294967296
 ·exact mul_quick s t w (by omega) (by omega) h.1 h.2
 ·exact mul_long s t w hs ht h
theorem app_ints {w:World} {ops:Array Oper} {rest:List Oper} {o:Oper} {a:Act} {Q:Exit→Act→World→Prop} {s x:Operand} {v v2:Value} {l l2:List Int}
  (hgd:o.guard=none)
  (ho:o.op= .call {callee:=.builtin .append,args:= #[s,x],argTypes:= #[81,81]})
  (hs:a.eval s=v) (hx:a.eval x=v2) (B B2:Nat) (hown:Ints w B v l) (h2:Ints w B2 v2 l2)
  (hlen:l.length+l2.length<8589934592) (hB:B≤w.heap.size)
  (h: ∀v' w',Ints w' B v' (l++l2)→w.grownBy w' v.ownBlock→wpList Tryz.prog ops Q rest (a.put o.dst v') w'):wpList Tryz.prog ops Q (o::rest) a w:=by
 obtain⟨i0,hi,hz0,hz1,hz2⟩:=info_parts info_int
 rcases h2.2 with⟨rfl,hn⟩|⟨g,cap,cur,rfl,hb,hg,hnc,hcm,hcs,htake⟩
 ·have:l2= []:=List.eq_nil_of_length_eq_zero hn
  subst this
  refine wpList_append_own_none hgd s x 81 ho B 3 i0 1 Tryz.underlying81 hi v _ _ hs hown hx ?_
  exact h v w (by simpa using hown) ⟨rfl,rfl,rfl,Nat.le_refl _,fun _ _ _=>rfl⟩
 ·refine wpList_append_own w hgd s x 81 ho B 3 i0 (.int .i64 0) 1 8 Tryz.underlying81 hi hz0 hz1 hz2 rfl (by decide) v _ _ hs hown ⟨g,0,none⟩ l2.length cap (l2.map (Value.int .i64)) hx (by simp) (h2.cells (g:=g) rfl) ?_ (by unfold maxLen;omega) (by omega) hB ?_
  ·intro u hu;simp at hu;obtain⟨z,_,rfl⟩:=hu;rfl
  ·intro v' w' h1 h3 _
   refine h v' w' ?_ h3
   unfold Ints;rw[List.length_append,List.map_append]
   exact h1
theorem Ints.lit (w:World) (B:Nat) (z:Int) (hB:B≤w.heap.size):Ints (w.alloc (.cells #[.int .i64 z] 3)) B (.slice (some ⟨w.heap.size,0,none⟩) 1 1) [z]:=
 World.ownsRow_lit (e:=3) (size:=1) w #[.int .i64 z] 1 hB (by simp[maxLen]) rfl
theorem quo_quick (s t:ByteArray) (w:World) (hs:s.size≤4294967296) (ht:t.size≤4294967296) (h0:0<bv t) (h1:bv s<72057594037927936) (h2:bv t<72057594037927936):
  Calls Tryz.prog 96 #[.string s,.string t] w fun e w'=>e= .returned (.tuple #[.string (nb (bv s/bv t)),.string (nb (bv s %bv t)),.bool true])∧Below w.heap.size w w':=by
 have hmt:t.size≤maxLen:=by unfold maxLen;omega
 have q1:=size7.2 h1;have q2:=size7.2 h2
 have q0:(nb (bv t)).size≠0:=fun h=>by have:=nb_size_zero.1 h;omega
 have q3:(((nb (bv t)).size:Int)==0)=false:=by simp[q0]
 have hb':=bv_nb (bv t);have Hb':=Lib.hid hb'
 have hsz:(nb (bv t)).size≤4294967296:=by omega
 have hd0:0≤(bv s:Int)/(bv t:Int):=by exact_mod_cast Nat.zero_le (bv s/bv t)
 have hd1:(bv s:Int)/(bv t:Int)≤9223372036854775807:=by
  have:bv s/bv t≤bv s:=Nat.div_le_self _ _
  have e:((bv s/bv t:Nat):Int)=(bv s:Int)/(bv t:Int):=by simp
  omega
 have hm0:0≤(bv s:Int)%(bv t:Int):=by exact_mod_cast Nat.zero_le (bv s %bv t)
 have hm1:(bv s:Int)%(bv t:Int)≤9223372036854775807:=by
  have:bv s %bv t≤bv s:=Nat.mod_le _ _
  have e:((bv s %bv t:Nat):Int)=(bv s:Int)%(bv t:Int):=by simp
  omega
 have kw:IntKind.i64.wrap ((bv s:Int)/(bv t:Int))=(bv s:Int)/(bv t:Int):=IntWalk.i64_in _ (by omega)
 have KW:=Lib.hid kw;clear hb' q0 kw
 go_enter Tryz.func96,Tryz.ntmps96
 go_wp2_with fail
 refine(canon_any t _ hmt).mono ?_
 rintro e w' ⟨rfl,rfl⟩
 go_wp2_with fail
 refine(small_yes s 7 _ hs (by omega) (by omega)).mono ?_
 rintro e w' ⟨rfl,rfl⟩
 go_wp2_with fail
 refine(small_yes (nb (bv t)) 7 _ hsz (by rw[Hb'.out];omega) (by rw[Hb'.out];omega)).mono ?_
 rw[Hb'.out];rintro e w' ⟨rfl,rfl⟩
 go_wp2_with fail
 have kw:=KW.out;have ag:Below w.heap.size w w.drew:=(Below.refl _ _).drew;clear hs ht h1 h2 q1 q2 hsz hmt q3 KW Hb'
 go_region_with (go_at_call 59;refine(ofn_any _ _ (by assumption) (by assumption)).mono ?_;rintro e w1 ⟨rfl,hb⟩;have ag:=ag.tr hb;clear hb)
 all_goals
  clear kw
  go_wp2_with fail
  go_ret3
  exact⟨rfl,ag⟩
end Go.Proofs.YtinmmkcjjlconaaGreat
namespace Go.Proofs.YtinmmkcjjlconaaGreat
open Go.RowKit Pl
theorem ret3{a b c a' b' c':Value}(h:a=a')(h':b=b')(h'':c=c'):Ending.returned (.tuple #[a,b,c])= .returned (.tuple #[a',b',c']):=by rw[h,h',h'']
theorem Ints.belowg{w w':World}{B g:Nat}{v:Value}{l:List Int}(h:Ints w B v l)(hb:Below g w w')(hg:w.heap.size≤g):Ints w' B v l:=h.below (hb.mono hg)
theorem quo_long (s t:ByteArray) (w:World) (hs:s.size≤134217728) (ht:t.size≤134217728) (h0:0<bv t) (h1: ¬(bv s<72057594037927936∧bv t<72057594037927936)):
  Calls Tryz.prog 96 #[.string s,.string t] w fun e w'=>e= .returned (.tuple #[.string (nb (bv s/bv t)),.string (nb (bv s %bv t)),.bool true])∧Below w.heap.size w w':=by
 have q1:=size7 (n:=bv s);have q2:=size7 (n:=bv t)
 have hmt:t.size≤maxLen:=by unfold maxLen;omega
 have q0:(nb (bv t)).size≠0:=fun h=>by have:=nb_size_zero.1 h;omega
 have q3:(((nb (bv t)).size:Int)==0)=false:=by simp[q0]
 have hb':=bv_nb (bv t);have hsz:(nb (bv t)).size≤134217728:=Nat.le_trans (nb_bv_size t) ht
 have hcase:((nb (bv s)).size≤7∧7<(nb (bv t)).size)∨(7<(nb (bv s)).size∧(nb (bv t)).size≤7)∨(7<(nb (bv s)).size∧7<(nb (bv t)).size):=by omega
 have c1:(nb (bv s)).size≤7→bv s<9223372036854775808:=by omega
 have c2:(nb (bv t)).size≤7→bv t<9223372036854775808:=by omega
 have C1:=Lib.hid c1;have C2:=Lib.hid c2;have l1:=digs_len_bv s;have l2:=digs_len_bv t;have Hb':=Lib.hid hb';clear q1 q2 h1 c1 c2 q0 hb'
 go_enter Tryz.func96,Tryz.ntmps96
 go_wp2_with fail
 refine(canon_any t _ hmt).mono ?_
 rintro e w' ⟨rfl,rfl⟩
 rcases hcase with⟨q1,q2⟩|⟨q1,q2⟩|⟨q1,q2⟩
 all_goals
  go_wp2_with fail
  first|refine(small_yes s 7 _ (by omega) (C1.out q1) (by omega)).mono ?_|refine(small_no s 7 _ (by omega) (by omega)).mono ?_
  rintro e w' ⟨rfl,rfl⟩
  go_wp2_with fail
  first|refine(small_yes (nb (bv t)) 7 _ (by omega) (by rw[Hb'.out];exact C2.out q2) (by rw[Hb'.out];omega)).mono ?_|refine(small_no (nb (bv t)) 7 _ (by omega) (by rw[Hb'.out];omega)).mono ?_
  rintro e w' ⟨rfl,rfl⟩
  go_wp2_with fail
  refine(of_any s _ (by omega)).mono ?_
  rintro e w1 ⟨⟨v1,rfl,hv1⟩,hb1⟩
  go_wp2_with fail
  refine(of_any (nb (bv t)) _ (by omega)).mono ?_
  rw[Hb'.out];rintro e w2 ⟨⟨v2,rfl,hv2⟩,hb2⟩;have hb:=hb1.tr hb2;have hv1':=(hv1.below hb2).low (Nat.zero_le _);have hv2':=hv2.low (Nat.zero_le _);clear hv1 hv2;obtain⟨a,cap,rfl,hc,hm,hcell⟩:=hv1'.open;unfold maxLen at hm;have Hcell:=Lib.hid hcell;clear hcell;have hu:=digs_dig (bv s);have e1:=dv_digs (bv s);have E1:=Lib.hid e1;clear e1;generalize digs (bv s)=u at*
  have hmk:=run_mk (u.length:Int) u.length rfl (by omega)
  have hmade:=Ints.made w2 u.length (by omega)
  have Hmade:=Lib.hid hmade;clear hmade
  go_wp2_with fail
  clear hmk
  have hbw:Below w2.heap.size w2 (w2.alloc (.cells (zrow u.length) 3)):=(Below.refl _ _).alloc (by omega) _
  generalize hg:w2.heap.size=g at*;have hbs:=hb.size
  go_loopw [14,15] (fun rs k wr=> ∃(m:Nat) (quo:List Int) (r:Nat),m≤u.length∧Ints wr g (.slice (some ⟨g,0,none⟩) u.length u.length) quo∧QI u (bv t) m quo r∧Ints wr (g+1) rs (digs r)∧k= .int .i64 ((m:Int)-1)∧Below g w2 wr∧g<wr.heap.size) (fun _ k _=>(intOf k+1).toNat)
  case atStart=>exact⟨u.length,_,0,by omega,Hmade.out,QI.start u h0,by rw[digs_zero];exact Ints.nil _ _,rfl,hbw,by simp[hg]⟩
  case round=>
   obtain⟨m,quo,r,hmu,hq,hQ,hr,rfl,hbel,hgr⟩:=hrel;have hql:=hQ.len;have Hql:=Lib.hid hql;clear hql;have hrt:=hQ.lt;have hrl:=digs_len_mono (Nat.le_of_lt hrt)
   cases m with
   | zero=>
    have hdone:=hQ.done E1.out;have HD:=Lib.hid hdone;have hdg:=hQ.dig;clear hdone
    have hql2:quo.length≤134217728:=by have:=Hql.out;omega
    go_wp2_with fail
    refine(number_any _ _ _ _ hdg hq (by omega)).mono ?_
    rintro e w3 ⟨rfl,hb3⟩
    go_wp2_with fail
    refine(number_any _ _ _ _ (digs_dig r) (hr.below hb3) (by omega)).mono ?_
    rintro e w4 ⟨rfl,hb4⟩;have hz3:=hb3.size
    have ag:=(hbel.trans (hb3.mono (by omega))).trans (hb4.mono (by omega))
    go_wp2_with fail
    go_ret3
    exact⟨by
     show Ending.returned (.tuple #[.string (nb (dv quo).toNat),.string (nb (dv (digs r)).toNat),.bool true])=_
     rw[HD.out.1,dv_digs,Int.toNat_natCast,HD.out.2],hb.trans (ag.mono (by omega))⟩
   | succ m=>
    obtain⟨gu,_,hgu,rfl,hcu⟩:=Hcell.out m (by omega)
    have hcu':wr.cell? ⟨gu,m,none⟩=some (.int .i64 u[m]):=by rw[hbel.cell (p:=⟨gu,m,none⟩) (by omega)];exact hcu
    have em:((m+1:Nat):Int)-1=m:=by omega
    rw[em];clear em hcu
    have hz:=hu.get m (by omega)
    have hst: ∀z,u[m]=z→0≤z→z<16777216→QI u (bv t) m (quo.set m (((z.toNat+16777216*r)/bv t:Nat):Int)) ((z.toNat+16777216*r)%bv t):=fun z hz h0 h1=>hQ.step (by omega) hz h0 h1
    have hst0: ∀z,u[m]=z→0≤z→z<16777216→z.toNat+16777216*r<bv t→QI u (bv t) m quo (z.toNat+16777216*r):=fun z hz h0 h1 h2=>hQ.step0 (by omega) hz h0 h1 h2
    have hlt':=fun z h0 h1=>hQ.lt' (z:=z) h0 h1;generalize hze:u[m]=z at hcu' hz;obtain⟨hz0,hz1⟩:=hz;have Hst:=Lib.hid (hst z hze hz0 hz1);have Hst0:=Lib.hid (hst0 z hze hz0 hz1);have Hlt:=Lib.hid (hlt' z hz0 hz1);have Hze:=Lib.hid hze;clear hst hst0 hlt' hze
    go_wp2_with (at_builtin;refine app_ints (by rfl) (by rfl) (by rfl) (by rfl) (g+1) (g+1) (Ints.lit _ _ _ (by omega)) (hr.alloc _) (by simp;omega) (by simp;omega) ?_;intro v3 w3 hv3 hg3)
    have hB3:Below wr.heap.size wr w3:=((Below.refl _ _).alloc (Nat.le_refl _) _).grown hg3 (by simp) (fun k hk=>by simp[Value.ownBlock] at hk;omega)
    clear hg3;have hd3:Dig ([z]++digs r):=Dig.cons hz0 hz1 (digs_dig r)
    refine(trim_any _ v3 _ _ hd3 hv3).mono ?_
    rw[show [z]++digs r=z::digs r from rfl,dv_cons_digs hz0];clear hd3 hv3;generalize hN:z.toNat+16777216*r=N at*;have HN:=Lib.hid hN;clear hN;rintro e w' ⟨⟨v4,rfl,hv4⟩,rfl⟩
    have hv2a:=hv2'.belowg (hbel.trans (hB3.mono (by omega))) (by omega)
    go_wp2_with fail
    refine(cmpd_any N (bv t) v4 v2 0 _ (hv4.low (Nat.zero_le _)) hv2a).mono ?_
    rintro e w4 ⟨⟨c,rfl,hcs⟩,hb4⟩;have hB4:=hB3.tr hb4;have hge:=hcs.ge
    by_cases hc0:0≤c
    ·have HNt:=Lib.hid (hge.1 hc0)
     clear hge hcs
     go_wp2_with fail
     refine(digit_any N (bv t) v4 v2 0 _ ((hv4.below hb4).low (Nat.zero_le _)) (hv2a.below hb4) h0 Hlt.out (by omega)).mono ?_
     rintro e w5 ⟨rfl,hb5⟩;have hB5:=hB4.tr hb5;have hq5:=hq.below hB5
     have hml:m<quo.length:=by have:=Hql.out;omega
     obtain⟨hcell5,hfr5⟩:=hq5.at m hml;have hset:=hq5.set m (((N/bv t:Nat)):Int);have hv45:=(hv4.below hb4).below hb5
     have hv4s:Ints (w5.setCell ⟨g,m,none⟩ (.int .i64 ((N/bv t:Nat):Int))) (g+1) v4 (digs N):=ownsRow_setCell_below hv45 (by simp) _
     have hB6:Below g w2 (w5.setCell ⟨g,m,none⟩ (.int .i64 ((N/bv t:Nat):Int))):=((hbel.trans (hB5.mono (by omega)))).setCell (Nat.le_refl _) _
     have hv2s:=hv2'.belowg hB6 (by omega)
     have hq0:0≤((N/bv t:Nat):Int):=Int.natCast_nonneg _
     have hq1:((N/bv t:Nat):Int)<16777216:=by
      have:=(Nat.div_lt_iff_lt_mul h0 (y:=16777216) (x:=N)).2 (by have:=Hlt.out;omega)
      exact Int.ofNat_lt.2 this
     have hszw:w5.heap.size=(w5.setCell ⟨g,m,none⟩ (.int .i64 ((N/bv t:Nat):Int))).heap.size:=by simp[World.setCell]
     generalize hqv:((N/bv t:Nat):Int)=qd at*;have Hqv:=Lib.hid hqv;clear hqv;generalize quo[m]=oldq at hcell5
     go_wp2_with fail
     clear hcell5 hfr5
     have h56:w5.heap.size≤(w5.setCell ⟨g,m,none⟩ (.int .i64 qd)).heap.size:=by omega
     clear hszw;generalize w5.setCell ⟨g,m,none⟩ (.int .i64 qd)=W6 at*;have hz5:=hB5.size
     refine(times_any (digs (bv t)) v2 qd 0 _ (digs_dig _) hv2s hq0 hq1 (by omega)).mono ?_
     rintro e w7 ⟨⟨v7,rfl,hv7⟩,hb7⟩
     go_wp2_with fail
     have hmle:dv (digs (dv (digs (bv t))*qd).toNat)≤(N:Int):=by rw[←Hqv.out];exact mul_div_le
     have hrest:((N:Int)-dv (digs (dv (digs (bv t))*qd).toNat)).toNat=N %bv t:=by rw[←Hqv.out];exact rest_eq
     have hll:(digs (dv (digs (bv t))*qd).toNat).length≤(digs N).length:=digs_len_mono (by rw[dv_digs] at hmle;omega)
     have hNl:=digs_len_mul Hlt.out;have Hrest:=Lib.hid hrest;have Hmle:=Lib.hid hmle;clear hrest hmle
     refine(minus_any (digs N) _ v4 v7 0 _ (digs_dig _) (digs_dig _) ((hv4s.below hb7).low (Nat.zero_le _)) (hv7.low (Nat.zero_le _)) hll (by rw[dv_digs N];exact Hmle.out) (by omega)).mono ?_
     rw[dv_digs N,Hrest.out];rintro e w8 ⟨⟨v8,rfl,hv8⟩,hb8⟩;have hz7:=hb7.size;have hz8:=hb8.size;have hb78:=hb7.trans (hb8.mono hz7);have hq8:=hset.below hb78
     have hb9:=hB6.trans (hb78.mono (by omega))
     go_wp2_with fail
     go_roundw
     case rel=>exact⟨m,_,_,by omega,hq8,Hst.out,hv8.low (by omega),rfl,hb9,by omega⟩
     case measure=>first|(simp[intOf];done)|(simp[intOf];omega)
    ·have hlt2:N<bv t:=by omega
     clear hge hcs;have hz4:=hB4.size
     go_wp2_with fail
     go_roundw
     case rel=>exact⟨m,_,_,by omega,hq.below hB4,Hst0.out hlt2,hv4.below hb4,rfl,hbel.trans (hB4.mono (by omega)),by omega⟩
     case measure=>first|(simp[intOf];done)|(simp[intOf];omega)
theorem quo_any (s t:ByteArray) (w:World) (hs:s.size≤134217728) (ht:t.size≤134217728) (h0:0<bv t):
  Calls Tryz.prog 96 #[.string s,.string t] w fun e w'=>e= .returned (.tuple #[.string (nb (bv s/bv t)),.string (nb (bv s %bv t)),.bool true])∧Below w.heap.size w w':=by
 by_cases h:bv s<72057594037927936∧bv t<72057594037927936
 ·exact quo_quick s t w (by omega) (by omega) h0 h.1 h.2
 ·exact quo_long s t w hs ht h0 h
def bvV:Value→Nat| .string s=>bv s|_=>0
end Go.Proofs.YtinmmkcjjlconaaGreat
