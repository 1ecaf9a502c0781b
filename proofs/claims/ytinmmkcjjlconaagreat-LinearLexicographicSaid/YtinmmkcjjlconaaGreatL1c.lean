/- Parts of the proofs about this seat's statements. -/
import Derived.Test.YtinmmkcjjlconaaGreatL1b
import Derived.Lib.EndianBits
import Derived.WalkMore
set_option maxRecDepth 100000
set_option maxHeartbeats 16000000
namespace Go.Proofs.YtinmmkcjjlconaaGreat
open Go.RowKit W
open Pl (bval enc bv nb bval_append bval_cons bval_nil bval_snoc u8 u8_toNat tk tk_zero tk_size tk_succ tk_pos nb_size_le bv_nb bv_lt nb_bv_size nb_size_zero Zeros cmpN cmpN_lt cmpN_gt cmpN_eq nb_less nb_eq nb_inj nb_toList nb_size strip0 ext_of_data extract_list nb_size_lt)
def U32s(w:World)(B:Nat)(v:Value)(l:List Int):Prop:=w.ownsRow B 138 1 v l.length (l.map (Value.int .u32))
def RetU32(B:Nat)(l:List Int)(e:Ending)(w:World):Prop:= ∃v,e= .returned v∧U32s w B v l
theorem U32s.open {w:World} {B:Nat} {v:Value} {l:List Int} (h:U32s w B v l):
  ∃a cap,v= .slice a l.length cap∧l.length≤cap∧cap≤maxLen∧∀k (hk:k<l.length),∃g,B≤g∧g<w.heap.size∧a=some ⟨g,0,none⟩∧w.cell? ⟨g,k,none⟩=some (.int .u32 l[k]):=by
 rcases h.2 with⟨rfl,hn⟩|⟨g,cap,cur,rfl,hb,hg,hnc,hcm,hcs,htake⟩
 ·exact⟨none,0,by rw[hn],by omega,by simp[maxLen],fun k hk=>by omega⟩
 ·refine⟨some ⟨g,0,none⟩,cap,rfl,hnc,hcm,fun k hk=>⟨g,hb,(Array.getElem?_eq_some_iff.1 hg).1,rfl,?_⟩⟩
  have:=h.cells (g:=g) rfl k (.int .u32 l[k]) (by simp[hk])
  have hadd:(⟨g,0,none⟩:Addr).add k=⟨g,k,none⟩:=by unfold Addr.add;split<;>simp_all
  rwa [hadd] at this
theorem U32s.take {w:World} {B:Nat} {a:Option Addr} {cap:Nat} {l:List Int} (h:U32s w B (.slice a l.length cap) l) (n:Nat) (hn:n≤l.length) (h0:0<l.length):U32s w B (.slice a n cap) (l.take n):=by
 rcases h.2 with⟨hv,hz⟩|⟨g,cap',cur,hv,hb,hg,hnc,hcm,hcs,htake⟩
 ·omega
 ·simp only[Value.slice.injEq] at hv
  obtain⟨rfl,_,rfl⟩:=hv
  have hlen:(l.take n).length=n:=by simp;omega
  refine⟨by simp,.inr ⟨g,cap,cur,by rw[hlen],hb,hg,by omega,hcm,hcs,?_⟩⟩
  rw[hlen,List.map_take,←htake,List.take_take]
  congr 1;omega
theorem U32s.nil(w:World)(B:Nat):U32s w B (.slice none 0 0) []:=World.ownsRow_nil w B _ 1
theorem utrimmed {w:World} {B:Nat} {a:Option Addr} {cap:Nat} {l l':List Int} (h:U32s w B (.slice a l.length cap) l) (n:Nat) (hn:n≤l.length) (e:l.take n=l'):U32s w B (.slice a n cap) l':=by
 subst e
 by_cases h0:0<l.length
 ·exact h.take n hn h0
 ·obtain rfl:n=l.length:=by omega
  simpa using h
theorem utrim_any (l:List Int) (v:Value) (B:Nat) (w:World) (hd:Dig l) (h:U32s w B v l):
  Calls Tryz.prog 134 #[v] w fun e w'=>RetU32 B (digs (dv l).toNat) e w'∧w=w':=by
 obtain⟨a,cap,rfl,hc,hm,hcell⟩:=h.open;unfold maxLen at hm;have hcell:=Lib.hid hcell
 go_enter Tryz.func134,Tryz.ntmps134
 go_wp2
 go_loop [0] (fun x=> ∃n:Nat,n≤l.length∧dv (l.take n)=dv l∧x= .slice a n cap) lenV
 case atStart=>exact⟨l.length,by omega,by simp,rfl⟩
 case round=>
  obtain⟨n,hn,hz,rfl⟩:=hrel;have hz:=Lib.hid hz
  cases n with
  |zero=>
   go_wp2
   go_ret
   exact⟨⟨_,rfl,utrimmed h 0 (by omega) (trim_zero hz.out)⟩,rfl⟩
  | succ n=>
   obtain⟨g,hg1,hg2,rfl,hc1⟩:=hcell.out n (by omega)
   go_wp2
   ·go_round
    case rel=>exact⟨n,by omega,trim_succ (by omega) hz.out (by assumption),rfl⟩
    case measure=>simp[lenV]
   ·go_ret
    exact⟨⟨_,rfl,utrimmed h (n+1) hn (trim_stop hd (by omega) hz.out (by assumption))⟩,rfl⟩
theorem info_u32:(Tryz.prog.info? 138).map (fun i=>(i.zero,i.size,i.bytes))=some (some (.int .u32 0),1,4):=by kernel_rfl
theorem U32s.alloc{w:World}{B:Nat}{v:Value}{l:List Int}(h:U32s w B v l)(o:Obj):U32s (w.alloc o) B v l:=World.ownsRow.alloc h o
theorem U32s.of_eq{w:World}{B:Nat}{v:Value}{l l':List Int}(h:U32s w B v l)(e:l=l'):U32s w B v l':=e▸h
theorem U32s.snoc {w:World} {B:Nat} {v:Value} {l:List Int} {x:Int} (h:w.ownsRow B 138 1 v (l.length+1) (l.map (Value.int .u32)++ [.int .u32 x])):U32s w B v (l++ [x]):=by
 unfold U32s;rw[List.length_append,List.map_append];exact h
theorem U32s.own{w:World}{B:Nat}{v:Value}{l:List Int}(h:U32s w B v l): ∀k,v.ownBlock=some k→B≤k:=fun k hk=>(World.ownsRow.lt h k hk).1
theorem app_u32 {w:World} {ops:Array Oper} {rest:List Oper} {o:Oper} {a:Act} {Q:Exit→Act→World→Prop} {s x:Operand} {v:Value} {l:List Int} {z:Int}
  (hgd:o.guard=none)
  (ho:o.op= .call {callee:=.builtin .append,args:= #[s,x],argTypes:= #[140,140]})
  (hs:a.eval s=v) (hx:a.eval x= .slice (some ⟨w.heap.size,0,none⟩) 1 1) (B:Nat) (hown:U32s w B v l)
  (hlen:l.length<8589934592) (hB:B≤w.heap.size)
  (h: ∀v' w',U32s w' B v' (l++ [z])→w.grownBy w' v.ownBlock→wpList Tryz.prog ops Q rest (a.put o.dst v') w'):wpList Tryz.prog ops Q (o::rest) a (w.alloc (.cells #[.int .u32 z] 138)):=by
 obtain⟨i0,hi,hz0,hz1,hz2⟩:=info_parts info_u32
 refine wpList_append_own _ hgd s x 140 ho B 138 i0 (.int .u32 0) 1 4 Tryz.underlying140 hi hz0 hz1 hz2 rfl (by decide) v _ _ hs (hown.alloc _) ⟨w.heap.size,0,none⟩ 1 1 [.int .u32 z] hx rfl (cell_one_new _ _ _) ?_ (by unfold maxLen;omega) (by omega) (by simp;omega) ?_
 ·intro u hu;simp at hu;subst hu;rfl
 ·intro v' w' h1 h2 _
  exact h v' w' (U32s.snoc h1) (grownBy_alloc_trans h2)
theorem U32s.below {w w':World} {B:Nat} {v:Value} {l:List Int} (h:U32s w B v l) (hb:Below w.heap.size w w'):U32s w' B v l:=by
 refine⟨h.1,?_⟩
 rcases h.2 with h2|⟨g,cap,cur,hv,hg,hh,r⟩
 ·exact .inl h2
 ·exact .inr ⟨g,cap,cur,hv,hg,by rw[hb.block g (Array.getElem?_eq_some_iff.1 hh).1];exact hh,r⟩
theorem U32s.low {w:World} {B B':Nat} {v:Value} {l:List Int} (h:U32s w B v l) (hb:B'≤B):U32s w B' v l:=by
 refine⟨h.1,?_⟩
 rcases h.2 with h2|⟨g,cap,cur,hv,hg,r⟩
 ·exact .inl h2
 ·exact .inr ⟨g,cap,cur,hv,by omega,r⟩
def uzrow(n:Nat):Array Value:=((List.replicate n (0:Int)).map (Value.int .u32)).toArray
theorem uzrow_made (n:Nat):madeCells (Value.int .u32 0).cells (n*1)=uzrow n:=by
 unfold madeCells uzrow
 apply Array.ext
 ·simp
 ·intro k h1 h2
  simp[Value.cells,Nat.mod_one]
theorem urun_mk (c:Int) (n:Nat) (h:c=n) (hn:n≤8589934592) (w:World):(Instr.makeSlice 140 (.int .i64 c) (.int .i64 c)).run Tryz.prog w= .ok (.slice (some ⟨w.heap.size,0,none⟩) n n) (w.alloc (.cells (uzrow n) 138)):=by
 subst h;obtain⟨i0,hi,hz0,hz1,hz2⟩:=info_parts info_u32
 have:=run_make (P:=Tryz.prog) w 140 138 i0 (.int .u32 0) Tryz.underlying140 hi hz0 .i64 .i64 n n (by omega) (by omega) (by rw[hz2];omega) (by omega)
 rw[this,hz1,Int.toNat_natCast,uzrow_made]
theorem U32s.made (w:World) (n:Nat) (hn:n≤8589934592):U32s (w.alloc (.cells (uzrow n) 138)) w.heap.size (.slice (some ⟨w.heap.size,0,none⟩) n n) (List.replicate n 0):=by
 refine⟨by simp,.inr ⟨w.heap.size,n,uzrow n,by simp,Nat.le_refl _,heap_alloc_new w _,by simp,by unfold maxLen;omega,by simp[uzrow],?_⟩⟩
 simp[uzrow]
theorem U32s.at {w:World} {B g n cap:Nat} {l:List Int} (h:U32s w B (.slice (some ⟨g,0,none⟩) n cap) l) (k:Nat) (hk:k<l.length):
  w.cell? ⟨g,k,none⟩=some (.int .u32 l[k])∧w.frozen? ⟨g,k,none⟩=false:=by
 rcases h.2 with⟨hv,_⟩|⟨g',cap',cur,hv,hb,hg,hnc,hcm,hcs,htake⟩
 ·cases hv
 ·simp only[Value.slice.injEq,Option.some.injEq,Addr.mk.injEq] at hv
  obtain⟨⟨rfl,_⟩,_,rfl⟩:=hv
  refine⟨?_,?_⟩
  ·have:=h.cells (g:=g) rfl k (.int .u32 l[k]) (by simp[hk])
   have hadd:(⟨g,0,none⟩:Addr).add k=⟨g,k,none⟩:=by unfold Addr.add;split<;>simp_all
   rwa [hadd] at this
  ·simp[World.frozen?,hg]
theorem U32s.drewN{w:World}{B:Nat}{v:Value}{l:List Int}(h:U32s w B v l)(n:Nat):U32s (w.drewN n) B v l:=h.below (below_drewN (Below.refl _ _) n)
theorem U32s.set {w:World} {B g n cap:Nat} {l:List Int} (h:U32s w B (.slice (some ⟨g,0,none⟩) n cap) l) (k:Nat) (z:Int):
  U32s (w.setCell ⟨g,k,none⟩ (.int .u32 z)) B (.slice (some ⟨g,0,none⟩) n cap) (l.set k z):=by
 rcases h.2 with⟨hv,_⟩|⟨g',cap',cur,hv,hb,hg,hnc,hcm,hcs,htake⟩
 ·cases hv
 ·simp only[Value.slice.injEq,Option.some.injEq,Addr.mk.injEq] at hv
  obtain⟨⟨rfl,_⟩,rfl,rfl⟩:=hv
  refine⟨by simp,.inr ⟨g,cap,cur.setIfInBounds k (.int .u32 z),by simp,hb,?_,by simpa using hnc,hcm,by simpa using hcs,?_⟩⟩
  ·simp only[World.setCell,Array.getElem?_modify]
   simp[hg]
  ·rw[Array.toList_setIfInBounds,List.length_set,List.map_set,←htake]
   simp[List.take_set]
def bzrow(n:Nat):Array Value:=((List.replicate n (0:Int)).map (Value.int .u8)).toArray
theorem bzrow_made (n:Nat):madeCells (Value.int .u8 0).cells (n*1)=bzrow n:=by
 unfold madeCells bzrow
 apply Array.ext
 ·simp
 ·intro k h1 h2
  simp[Value.cells,Nat.mod_one]
theorem urun_mk0 (c:Int) (n:Nat) (h:c=n) (hn:n≤8589934592) (w:World):(Instr.makeSlice 140 (.int .i64 0) (.int .i64 c)).run Tryz.prog w= .ok (.slice (some ⟨w.heap.size,0,none⟩) 0 n) (w.alloc (.cells (uzrow n) 138)):=by
 subst h;obtain⟨i0,hi,hz0,hz1,hz2⟩:=info_parts info_u32
 have:=run_make (P:=Tryz.prog) w 140 138 i0 (.int .u32 0) Tryz.underlying140 hi hz0 .i64 .i64 0 n (by omega) (by omega) (by rw[hz2];omega) (by omega)
 rw[this,hz1,Int.toNat_natCast,uzrow_made];rfl
theorem U32s.made0 (w:World) (n:Nat) (hn:n≤8589934592):U32s (w.alloc (.cells (uzrow n) 138)) w.heap.size (.slice (some ⟨w.heap.size,0,none⟩) 0 n) []:=by
 refine⟨by simp,.inr ⟨w.heap.size,n,uzrow n,by simp,Nat.le_refl _,heap_alloc_new w _,by simp,by unfold maxLen;omega,by simp[uzrow],by simp⟩⟩
theorem brun_mk0 (c:Int) (n:Nat) (h:c=n) (hn:n≤8589934592) (w:World):(Instr.makeSlice 49 (.int .i64 0) (.int .i64 c)).run Tryz.prog w= .ok (.slice (some ⟨w.heap.size,0,none⟩) 0 n) (w.alloc (.cells (bzrow n) 5)):=by
 subst h;obtain⟨i0,hi,hz0,hz1,hz2⟩:=info_parts info_u8
 have:=run_make (P:=Tryz.prog) w 49 5 i0 (.int .u8 0) Tryz.underlying49 hi hz0 .i64 .i64 0 n (by omega) (by omega) (by rw[hz2];omega) (by omega)
 rw[this,hz1,Int.toNat_natCast,bzrow_made];rfl
theorem Bys.made0 (w:World) (n:Nat) (hn:n≤8589934592):Bys (w.alloc (.cells (bzrow n) 5)) w.heap.size (.slice (some ⟨w.heap.size,0,none⟩) 0 n) []:=by
 refine⟨by simp,.inr ⟨w.heap.size,n,bzrow n,by simp,Nat.le_refl _,heap_alloc_new w _,by simp,by unfold maxLen;omega,by simp[bzrow],by simp⟩⟩
def strV:Value→Nat| .string s=>s.size|_=>0
theorem ext_size(s:ByteArray)(k:Nat):(s.extract k s.size).size=s.size-k:=by simp
theorem ext_ext (s:ByteArray) (k:Nat):(s.extract k s.size).extract 1 (s.extract k s.size).size=s.extract (k+1) s.size:=by
 apply ext_of_data
 rw[extract_list,extract_list,extract_list,List.drop_drop]
theorem toList_nil {t:ByteArray}:t.toList= []↔t.size=0:=by
 rw[Go.ByteArray.toList_eq,←List.length_eq_zero_iff,Array.length_toList];rfl
theorem ext_get (s:ByteArray) (k:Nat) (hk:k<s.size) (h:0<(s.extract k s.size).size):(s.extract k s.size)[0]=s[k]:=by
 have e:(s.extract k s.size).data.toList=s[k]::s.data.toList.drop (k+1):=by rw[extract_list,Pl.drop_cons s k hk]
 have e2:(s.extract k s.size).data.toList[0]? =some s[k]:=by rw[e];rfl
 rw[Array.getElem?_toList,Array.getElem?_eq_getElem (xs:=(s.extract k s.size).data) (show 0<(s.extract k s.size).data.size from h)] at e2
 exact Option.some.inj e2
theorem strip_any (s:ByteArray) (w:World) (_:s.size≤maxLen):
  Calls Tryz.prog 133 #[.string s] w fun e w'=>e= .returned (.string (nb (bv s)))∧w=w':=by
 go_enter Tryz.func133,Tryz.ntmps133
 go_wp2
 go_loop [0] (fun v=> ∃(k:Nat) (t:ByteArray),k≤s.size∧Zeros s k∧t=s.extract k s.size∧v= .string t) strV
 case atStart=>exact⟨0,s,Nat.zero_le _,Zeros.zero s,by apply ext_of_data;rw[extract_list];rfl,rfl⟩
 case round=>
  obtain⟨k,t,hk,hz,ht,rfl⟩:=hrel;have HT:=Lib.hid ht
  have hsz:t.size=s.size-k:=by rw[ht];exact ext_size s k
  clear ht
  by_cases hlt:k<s.size
  ·have h0:0<t.size:=by omega
   have hne: ¬t.toList= []:=fun e=>by have:=toList_nil.1 e;omega
   have hem:t.toList.isEmpty=false:=by simpa using hne
   have hg:((t[0].toNat:Int)==0)=((s[k].toNat:Int)==0):=by
    have e:=HT.out;subst e;rw[ext_get s k hlt h0]
   have HG:=Lib.hid hg;clear hg
   go_wp2
   ·go_round
    case rel=>exact⟨k+1,_,by omega,hz.succ hlt (by rw[←HG.out];assumption),by rw[HT.out,←hsz,HT.out];exact ext_ext s k,rfl⟩
    case measure=>simp[strV];omega
   ·go_ret
    exact⟨ret_str (by rw[HT.out];exact hz.stop hlt (by rw[←HG.out];assumption)),rfl⟩
  ·have hne:t.toList= []:=toList_nil.2 (by omega)
   go_wp2
   go_ret
   exact⟨ret_str (by rw[HT.out];exact hz.full hlt),rfl⟩
theorem u8_mod(x:Int):u8 (x %256)=u8 x:=by unfold u8;rw[Int.emod_emod_of_dvd x (Int.dvd_refl 256)]
theorem app4 {w:World} {ops:Array Oper} {rest:List Oper} {o:Oper} {a:Act} {Q:Exit→Act→World→Prop} {s x:Operand} {v:Value} {l:List UInt8} {x1 x2 x3 x4:Int}
  (hgd:o.guard=none)
  (ho:o.op= .call {callee:=.builtin .append,args:= #[s,x],argTypes:= #[49,49]})
  (hs:a.eval s=v) (hx:a.eval x= .slice (some ⟨w.heap.size,0,none⟩) 4 4) (B:Nat) (hown:Bys w B v l)
  (h1:0≤x1∧x1<256) (h2:0≤x2∧x2<256) (h3:0≤x3∧x3<256) (h4:0≤x4∧x4<256)
  (hlen:l.length<8589934592) (hB:B≤w.heap.size)
  (h: ∀v' w',Bys w' B v' (l++ [u8 x1,u8 x2,u8 x3,u8 x4])→w.grownBy w' v.ownBlock→wpList Tryz.prog ops Q rest (a.put o.dst v') w'):
  wpList Tryz.prog ops Q (o::rest) a (w.alloc (.cells #[.int .u8 x1,.int .u8 x2,.int .u8 x3,.int .u8 x4] 5)):=by
 obtain⟨i0,hi,hz0,hz1,hz2⟩:=info_parts info_u8
 have e: ∀x:Int,0≤x∧x<256→((u8 x).toNat:Int)=x:=fun x hx=>by rw[u8_toNat];omega
 have hb:=heap_alloc_new w (.cells #[.int .u8 x1,.int .u8 x2,.int .u8 x3,.int .u8 x4] 5)
 refine wpList_append_own _ hgd s x 49 ho B 5 i0 (.int .u8 0) 1 1 Tryz.underlying49 hi hz0 hz1 hz2 rfl (by decide) v _ _ hs (World.ownsRow.alloc hown _) ⟨w.heap.size,0,none⟩ 4 4 [.int .u8 x1,.int .u8 x2,.int .u8 x3,.int .u8 x4] hx rfl (World.news_of_block hb) ?_ (by unfold maxLen;omega) (by omega) (by simp;omega) ?_
 ·intro u hu;simp at hu;rcases hu with rfl|rfl|rfl|rfl<;>rfl
 ·intro v' w' g1 g2 _
  refine h v' w' ?_ (grownBy_alloc_trans g2)
  unfold Bys;rw[List.length_append,List.map_append]
  simp only[List.map_cons,List.map_nil,e _ h1,e _ h2,e _ h3,e _ h4]
  exact g1
theorem nnumber_any (l:List Int) (v:Value) (B:Nat) (w:World) (hd:Dig l) (h:U32s w B v l) (hlen:l.length≤1073741824):
  Calls Tryz.prog 123 #[v] w fun e w'=>e= .returned (.string (nb (dv l).toNat))∧Below w.heap.size w w':=by
 obtain⟨a,cap,rfl,hc,hm,hcell⟩:=h.open;unfold maxLen at hm;have Hcell:=Lib.hid hcell;clear hcell
 have hmk:=brun_mk0 (4*(l.length:Int)) (4*l.length) (by simp) (by omega)
 have Hmade:=Lib.hid (Bys.made0 w (4*l.length) (by omega))
 go_enter Tryz.func123,Tryz.ntmps123
 go_wp2_with fail
 clear hmk;generalize hbn:4*l.length=bn at*;have hbw:Below w.heap.size w (w.alloc (.cells (bzrow bn) 5)):=(Below.refl _ _).alloc (Nat.le_refl _) _;have HBN:=Lib.hid hbn;clear hbn
 go_loopw [3,4,5] (fun v en _ wr=> ∃(bs:List UInt8) (m:Nat),Bys wr w.heap.size v bs∧m≤l.length∧(bval bs:Int)=dv (l.drop m)∧bs.length=4*(l.length-m)∧en= .int .i64 ((m:Int)-1)∧Below w.heap.size w wr) (fun _ en _ _=>(intOf en+1).toNat)
 case atStart=>exact⟨[],l.length,Hmade.out,by omega,by simp[bval,dv],by simp,rfl,hbw⟩
 case round=>
  obtain⟨bs,m,hb,hml,hval,hbl,rfl,hbel⟩:=hrel;have Hval:=Lib.hid hval;have Hbl:=Lib.hid hbl;clear hval hbl
  cases m with
  | zero=>
   have hcv:=hb.conv
   have hsz:(⟨bs.toArray⟩:ByteArray).size≤maxLen:=by have:=Hbl.out;simp[ByteArray.size,maxLen];omega
   have hv:bv ⟨bs.toArray⟩=(dv l).toNat:=by
    have:=Hval.out
    simp only[List.drop_zero] at this
    simp only[bv];omega
   have HV:=Lib.hid hv;clear hv
   go_wp2_with (go_at_call 133;refine(strip_any _ _ hsz).mono ?_;rintro e w' ⟨rfl,rfl⟩)
   go_ret
   exact⟨ret_str (by rw[HV.out]),hbel⟩
  |succ m=>
   obtain⟨g,hg1,hg2,rfl,hc1⟩:=Hcell.out m (by omega)
   have hc2:wr.cell? ⟨g,m,none⟩=some (.int .u32 l[m]):=by rw[hbel.cell (p:=⟨g,m,none⟩) hg2];exact hc1
   have hdm:=hd.get m (by omega)
   have em:((m+1:Nat):Int)-1=m:=by omega
   rw[em];clear em
   have h0:(0:Int)≤m:=by omega
   have h1:(m:Int)<l.length:=by omega
   generalize hz:l[m]=z at hc2 hdm;have HZ:=Lib.hid hz;clear hz;clear hc1
   go_wp2_with (at_builtin;refine app4 (by rfl) (by rfl) (by rfl) (by rfl) w.heap.size hb (by omega) (by omega) (by omega) (by omega) (by have:=Hbl.out;omega) hbel.size ?_;intro v1 w1 hb1 hg1)
   go_roundw
   case rel=>exact⟨_,m,hb1,by omega,by rw[u8_mod,u8_mod,u8_mod];exact number_step (by omega) HZ.out hdm.1 hdm.2 Hval.out,by have:=Hbl.out;simp;omega,rfl,hbel.grown hg1 hbel.size hb.own⟩
   case measure=>first|(simp[intOf];done)|(simp[intOf];omega)
theorem or_byte (d b:Nat) (hd:d<16777216) (hb:b<256):bits BinOp.or IntKind.u32 ((d:Int)*256) (b:Int)=(d:Int)*256+b:=
 bits_join .u32 32 (by decide) wraps_u32 8 _ _ (by omega) (by omega) (by omega) (by omega) (by omega) (by omega)
theorem limbs_any (s:ByteArray) (w:World) (hs:s.size≤4294967296):
  Calls Tryz.prog 124 #[.string s] w fun e w'=>RetU32 w.heap.size (digs (bv s)) e w'∧Below w.heap.size w w':=by
 have hmk:=urun_mk0 ((s.size:Int)/4+1) (s.size/4+1) (by omega) (by omega)
 have Hmade:=Lib.hid (U32s.made0 w (s.size/4+1) (by omega))
 go_enter Tryz.func124,Tryz.ntmps124
 go_wp2_with fail
 clear hmk;generalize hbn:s.size/4+1=bn at*;have hbw:Below w.heap.size w (w.alloc (.cells (uzrow bn) 138)):=(Below.refl _ _).alloc (Nat.le_refl _) _;clear hbn
 go_loopw [3,4] (fun v en wr=> ∃(l:List Int) (m:Int),U32s wr w.heap.size v l∧LI s l m.toNat∧m≤s.size∧4*l.length+m≤s.size+3∧en= .int .i64 m∧ -4<m∧Below w.heap.size w wr) (fun _ en _=>(intOf en).toNat)
 case atStart=>exact⟨[],s.size,Hmade.out,LI.start s,by omega,by simp;omega,rfl,by omega,hbw⟩
 case round=>
  obtain⟨l,m,hl,hli,hms,hll,rfl,hm3,hbel⟩:=hrel;have Hli:=Lib.hid hli;clear hli
  by_cases hpos:0<m
  ·obtain⟨m,rfl⟩:=Int.eq_ofNat_of_zero_le (Int.le_of_lt hpos)
   obtain⟨s0,hs0⟩: ∃s0:Nat,s0=m-4:=⟨_,rfl⟩
   have hsa:s0≤m:=by omega
   have hsb:m≤s0+4:=by omega
   have hmx:(m:Int)-4=s0∨((0:Int)=s0∧m<4):=by omega
   have Hs0:=Lib.hid hs0;clear hs0
   rcases Nat.lt_or_ge m 4 with h3|h3
   all_goals
    have Hmx:=Lib.hid hmx;clear hmx
    go_wp2
    go_loop [5,6] (fun d k=> ∃kk dd:Nat,s0≤kk∧kk≤m∧Mid s s0 kk dd∧d= .int .u32 dd∧k= .int .i64 kk) (fun _ k=>m-(intOf k).toNat)
    case atStart=>exact⟨s0,0,by omega,by omega,Mid.start _ _,rfl,val_int (by have:=Hmx.out;omega)⟩
    case round=>
     obtain⟨kk,dd,h1,h2,hM,rfl,rfl⟩:=hrel
     by_cases hlt:kk<m
     ·have hd:=hM.lt (by omega)
      have hk':kk<s.size:=by omega
      have hb:=s[kk].toNat_lt
      go_wp2
      go_round
      case rel=>exact⟨kk+1,_,by omega,by omega,hM.succ h1 hk',val_int (by rw[or_byte dd s[kk].toNat hd hb];push_cast;rfl),by go_num⟩
      case measure=>simp[intOf];omega
     ·obtain rfl:kk=m:=by omega
      have hd:=hM.lt' (by omega)
      go_wp2_with (at_builtin;refine app_u32 (by rfl) (by rfl) (by rfl) (by rfl) w.heap.size hl (by omega) hbel.size ?_;intro v1 w1 hl1 hg1)
      have hb1:=hbel.grown hg1 hbel.size hl.own
      go_wp2
      go_roundw
      case rel=>exact⟨l++ [(dd:Int)],_,hl1,by have:=LI.succ (by simpa using Hli.out) hM Hs0.out (by omega);rw[show((kk:Int)-4).toNat=s0 from by have:=Hs0.out;omega];exact this,by omega,by simp;omega,rfl,by omega,hb1⟩
      case measure=>simp[intOf];omega
  ·obtain⟨hd1,hd2⟩:=LI.done (show LI s l 0 by have:=Hli.out;rwa [show m.toNat=0 by omega] at this)
   have Hd2:=Lib.hid hd2;clear hd2
   go_wp2_with (go_at_call 134;refine(utrim_any _ _ _ _ hd1 hl).mono ?_;rintro e w' ⟨⟨v2,rfl,hv2⟩,rfl⟩)
   go_ret
   exact⟨⟨_,rfl,hv2.of_eq (by rw[Hd2.out];rfl)⟩,hbel⟩
end Go.Proofs.YtinmmkcjjlconaaGreat
namespace Go.Proofs.YtinmmkcjjlconaaGreat
open Go.RowKit W
open Pl (bval enc bv nb bval_append bval_cons bval_nil bval_snoc bval_lt u8 u8_toNat tk tk_zero tk_size tk_succ tk_pos nb_size_le bv_nb bv_lt nb_bv_size nb_size_zero Zeros cmpN cmpN_lt cmpN_gt cmpN_eq nb_less nb_eq nb_inj nb_toList nb_size strip0 ext_of_data extract_list nb_size_lt size8 bval_enc)
theorem compareBytes_eq: ∀(l m:List UInt8),l.length=m.length→Lib.compareBytes l m=cmpN (bval l) (bval m)
 | [], [],_=>by simp[Lib.compareBytes,cmpN]
 | a ::l,b::m,h=>by
  have hl:l.length=m.length:=by simpa using h
  have ih:=compareBytes_eq l m hl;have h1:=bval_lt l;have h2:=bval_lt m;rw[Lib.compareBytes,ih,bval_cons,bval_cons,hl];rw[hl] at h1;generalize 256^m.length=P at*
  by_cases hab:a<b
  ·have:a.toNat+1≤b.toNat:=hab
   have h3:=Nat.mul_le_mul_right P this;rw[Nat.add_mul] at h3
   rw[if_pos hab,cmpN_lt (by omega)]
  ·by_cases hba:b<a
   ·have:b.toNat+1≤a.toNat:=hba
    have h3:=Nat.mul_le_mul_right P this;rw[Nat.add_mul] at h3
    rw[if_neg hab,if_pos hba,cmpN_gt (by omega)]
   ·have e:a=b:=by
     have h4: ¬a.toNat<b.toNat:=hab;have h5: ¬b.toNat<a.toNat:=hba
     exact UInt8.toNat_inj.1 (by omega)
    subst e;rw[if_neg hab,if_neg hab]
    simp only[cmpN,Nat.add_lt_add_iff_left]
theorem compare_nb {x y:Nat} (h:(nb x).size=(nb y).size):Lib.compareBytes (nb x).data.toList (nb y).data.toList=cmpN x y:=by
 have:=compareBytes_eq (nb x).data.toList (nb y).data.toList h;rw[this]
 show cmpN (bv (nb x)) (bv (nb y))=_
 rw[bv_nb,bv_nb]
theorem ncmp_any (s t:ByteArray) (w:World) (hs:s.size≤4294967296) (ht:t.size≤4294967296):
  Calls Tryz.prog 130 #[.string s,.string t] w fun e w'=>e= .returned (.int .i64 (cmpN (bv s) (bv t)))∧w=w':=by
 have hms:s.size≤maxLen:=by unfold maxLen;omega
 have hmt:t.size≤maxLen:=by unfold maxLen;omega
 go_enter Tryz.func130,Tryz.ntmps130
 go_wp2_with fail
 refine(strip_any s _ hms).mono ?_
 rintro e w' ⟨rfl,rfl⟩
 go_wp2_with fail
 refine(strip_any t _ hmt).mono ?_
 rintro e w' ⟨rfl,rfl⟩;generalize hx:bv s=x;generalize hy:bv t=y;have HX:=Lib.hid hx;have HY:=Lib.hid hy;clear hx hy hs ht hms hmt
 by_cases hsz:(nb x).size=(nb y).size
 ·have hne:(((nb x).size:Int) !=((nb y).size:Int))=false:=by simp[hsz]
  have h1:=Lib.hid (compare_nb hsz);clear hsz
  go_wp2_with (go_at_call 136;refine(Tryz.strings_Compare _ _ _).mono ?_;rintro e w' ⟨rfl,rfl⟩)
  go_ret
  exact⟨ret_int (by rw[h1.out,HX.out,HY.out]),rfl⟩
 ·have hne:(((nb x).size:Int) !=((nb y).size:Int))=true:=by simp[Int.natCast_inj,hsz]
  have hc:Lib.compareInt ((nb x).size:Int) ((nb y).size:Int)=cmpN x y:=by
   unfold Lib.compareInt
   rcases Nat.lt_or_gt_of_ne hsz with hlt|hlt
   ·rw[if_pos (by omega),cmpN_lt (nb_size_lt hlt)]
   ·rw[if_neg (by omega),if_pos (by omega),cmpN_gt (nb_size_lt hlt)]
  have HC:=Lib.hid hc;clear hsz hc
  go_wp2_with (go_at_call 135;refine(Tryz.cmp_Compare_int _ _ _).mono ?_;rintro e w' ⟨rfl,rfl⟩)
  go_ret
  exact⟨ret_int (by rw[HC.out,HX.out,HY.out]),rfl⟩
theorem U32s.lit2 (w:World) (B:Nat) (y z:Int) (hB:B≤w.heap.size):U32s (w.alloc (.cells #[.int .u32 y,.int .u32 z] 138)) B (.slice (some ⟨w.heap.size,0,none⟩) 2 2) [y,z]:=
 ⟨by simp,.inr ⟨w.heap.size,2, #[.int .u32 y,.int .u32 z],by simp,hB,heap_alloc_new w _,by simp,by unfold maxLen;omega,by simp,by simp⟩⟩
theorem U32s.lit1 (w:World) (B:Nat) (z:Int) (hB:B≤w.heap.size):U32s (w.alloc (.cells #[.int .u32 z] 138)) B (.slice (some ⟨w.heap.size,0,none⟩) 1 1) [z]:=
 ⟨by simp,.inr ⟨w.heap.size,1, #[.int .u32 z],by simp,hB,heap_alloc_new w _,by simp,by unfold maxLen;omega,by simp,by simp⟩⟩
theorem nof_any (n:Int) (w:World) (h0:0≤n) (h1:n≤9223372036854775807):
  Calls Tryz.prog 98 #[.int .i64 n] w fun e w'=>e= .returned (.string (nb n.toNat))∧Below w.heap.size w w':=by
 go_enter Tryz.func98,Tryz.ntmps98
 go_wp2_with fail
 have hd:Dig [n %4294967296,n/4294967296]:=Dig.cons (by omega) (by omega) (Dig.cons (by omega) (by omega) Dig.nil)
 have he:dv [n %4294967296,n/4294967296]=n:=by simp only[dv];omega
 have HE:=Lib.hid he;clear he
 refine(nnumber_any _ _ w.heap.size _ hd (U32s.lit2 w w.heap.size _ _ (Nat.le_refl _)) (by simp)).mono ?_
 rintro e w' ⟨rfl,hb⟩
 go_wp2_with fail
 go_ret
 exact⟨ret_str (by rw[HE.out]),((Below.refl w.heap.size w).alloc (Nat.le_refl _) _).trans (hb.mono (by simp))⟩
def rightB(s:ByteArray):Bool:=match s.data.toList with| []=>true|b::_=>b !=0
theorem rightB_nil {s:ByteArray} (h:s.size=0):rightB s=true:=by
 have:s.data.toList= []:=List.eq_nil_of_length_eq_zero (by simpa using h)
 simp[rightB,this]
theorem rightB_get {s:ByteArray} (h:0<s.size):rightB s=((s[0].toNat:Int) !=0):=by
 have e:s.data.toList=s[0]::s.data.toList.drop 1:=by have:=Pl.drop_cons s 0 h;simpa using this
 rw[rightB,e]
 simp only
 have:(s[0]=0)↔(s[0].toNat=0):=by constructor<;>intro h'<;>first|(rw[h'];rfl)|exact UInt8.toNat_inj.1 h'
 by_cases hz:s[0]=0
 ·rw[hz];rfl
 ·have h2: ¬s[0].toNat=0:=fun h'=>hz (this.2 h')
  have h3: ¬(s[0].toNat:Int)=0:=by omega
  rw[show(s[0] !=0)=true from by simpa using hz,show((s[0].toNat:Int) !=0)=true from by simpa using h3]
theorem ret_bool{a b:Bool}(h:a=b):Ending.returned (.bool a)= .returned (.bool b):=by rw[h]
theorem nright_any (s:ByteArray) (w:World) (hs:s.size≤4294967296):
  Calls Tryz.prog 112 #[.string s] w fun e w'=>e= .returned (.bool (rightB s))∧w=w':=by
 go_enter Tryz.func112,Tryz.ntmps112
 by_cases h0:s.size=0
 ·have hne:s.toList= []:=toList_nil.2 h0
  have hr:=Lib.hid (rightB_nil h0)
  go_wp2_with fail
  go_ret
  exact⟨ret_bool hr.out.symm,rfl⟩
 ·have hlt:0<s.size:=by omega
  have hne: ¬s.toList= []:=fun e=>h0 (toList_nil.1 e)
  have hem:s.toList.isEmpty=false:=by simpa using hne
  have hr:=Lib.hid (rightB_get hlt)
  go_wp2_with fail
  go_ret
  exact⟨ret_bool hr.out.symm,rfl⟩
theorem cmpu_any (x y:Int) (w:World):
  Calls Tryz.prog 146 #[.int .u32 x,.int .u32 y] w fun e w'=>e= .returned (.int .i64 (Lib.compareInt x y))∧w'=w:=by
 go_enter Tryz.func146,Tryz.ntmps146
 rcases(by omega:x<y∨x=y∨y<x) with h|h|h
 ·have hc:=Lib.hid (show Lib.compareInt x y= -1 from by unfold Lib.compareInt;rw[if_pos h])
  go_wp2
  go_ret
  exact⟨ret_int hc.out.symm,rfl⟩
 ·have hc:=Lib.hid (show Lib.compareInt x y=0 from by unfold Lib.compareInt;rw[if_neg (by omega),if_neg (by omega)])
  have h1: ¬x<y:=by omega
  have h2: ¬y<x:=by omega
  clear h
  go_wp2
  go_ret
  exact⟨ret_int hc.out.symm,rfl⟩
 ·have hc:=Lib.hid (show Lib.compareInt x y=1 from by unfold Lib.compareInt;rw[if_neg (by omega),if_pos (by omega)])
  go_wp2
  go_ret
  exact⟨ret_int hc.out.symm,rfl⟩
theorem compareInt_cmpN {p q:Int} {x y:Nat} (h: ¬p=q) (h1:p<q→x<y) (h2:q<p→y<x):Lib.compareInt p q=cmpN x y:=by
 unfold Lib.compareInt
 rcases(by omega:p<q∨q<p) with h3|h3
 ·rw[if_pos h3,cmpN_lt (h1 h3)]
 ·rw[if_neg (by omega),if_pos (by omega),cmpN_gt (h2 h3)]
theorem ncompare_any (x y:Nat) (vu vv:Value) (B:Nat) (w:World) (h:U32s w B vu (digs x)) (h':U32s w B vv (digs y)):
  Calls Tryz.prog 137 #[vu,vv] w fun e w'=>e= .returned (.int .i64 (cmpN x y))∧Below w.heap.size w w':=by
 obtain⟨a,cap,rfl,hc,hm,hcell⟩:=h.open;obtain⟨a',cap',rfl,hc',hm',hcell'⟩:=h'.open;unfold maxLen at hm hm';have Hcell:=Lib.hid hcell;have Hcell':=Lib.hid hcell';clear hcell hcell';have l1:=fun h=>cmp_len (a:=x) (b:=y) h;have l2:=fun h=>cmp_len (a:=y) (b:=x) h;have l3:=fun h=>CI.start (a:=x) (b:=y) h;have L1:=Lib.hid l1;have L2:=Lib.hid l2;have L3:=Lib.hid l3
 clear l1 l2 l3
 by_cases hlen:(digs x).length=(digs y).length
 ·have hci:=L3.out hlen
  have h1:(digs x).length≤(digs y).length:=by omega
  have h2:(digs y).length≤(digs x).length:=by omega
  have hnl:(((digs x).length:Int) !=((digs y).length:Int))=false:=by simp[hlen]
  have Hlen:=Lib.hid hlen;clear hlen
  go_enter Tryz.func137,Tryz.ntmps137
  go_wp2
  go_loopw [5] (fun k wr=> ∃m:Nat,m≤(digs x).length∧CI x y m∧k= .int .i64 ((m:Int)-1)∧Below w.heap.size w wr) (fun k _=>(intOf k+1).toNat)
  case atStart=>exact⟨_,Nat.le_refl _,hci,rfl,Below.refl _ _⟩
  case round=>
   obtain⟨m,hml,hC,rfl,hbel⟩:=hrel
   cases m with
   |zero=>
    go_wp2
    go_ret
    exact⟨ret_int (by rw[cmpN_eq hC.done]),hbel⟩
   | succ m=>
    obtain⟨g,hg1,hg2,rfl,hc1⟩:=Hcell.out m (by omega)
    obtain⟨g',hg1',hg2',rfl,hc1'⟩:=Hcell'.out m (by omega)
    have hc2:wr.cell? ⟨g,m,none⟩=some (.int .u32 (digs x)[m]):=by rw[hbel.cell (p:=⟨g,m,none⟩) hg2];exact hc1
    have hc2':wr.cell? ⟨g',m,none⟩=some (.int .u32 (digs y)[m]):=by rw[hbel.cell (p:=⟨g',m,none⟩) hg2'];exact hc1'
    have em:((m+1:Nat):Int)-1=m:=by omega
    rw[em];clear em hc1 hc1'
    have h0:(0:Int)≤m:=by omega
    have h1:(m:Int)<(digs x).length:=by omega
    have h1':(m:Int)<(digs y).length:=by omega
    have r1:(digs x)[m]<(digs y)[m]→x<y:=fun h=>hC.lt (by omega) (by omega) h
    have r2:(digs y)[m]<(digs x)[m]→y<x:=fun h=>hC.symm.lt (by omega) (by omega) h
    have r3:(digs x)[m]=(digs y)[m]→CI x y m:=fun h=>hC.succ (by omega) (by omega) h
    have R1:=Lib.hid r1;have R2:=Lib.hid r2;have R3:=Lib.hid r3;clear r1 r2 r3 hC;generalize (digs x)[m]=p at*;generalize (digs y)[m]=q at*
    by_cases hpq:p=q
    ·have hne:(p !=q)=false:=by simp[hpq]
     have R4:=Lib.hid (R3.out hpq);clear hpq
     go_wp2
     go_quiet (fail)
     go_wp2
     go_roundw
     case rel=>exact⟨m,by omega,R4.out,rfl,below_drewN hbel _⟩
     case measure=>first|(simp[intOf];done)|(simp[intOf];omega)
    ·have hne:(p !=q)=true:=by simp[hpq]
     have R5:=Lib.hid (compareInt_cmpN hpq R1.out R2.out)
     go_wp2
     go_quiet (fail)
     rename_i nq
     have hb1:=below_drewN hbel nq;have hc3:(wr.drewN nq).cell? ⟨g,m,none⟩=some (.int .u32 p):=hc2;have hc3':(wr.drewN nq).cell? ⟨g',m,none⟩=some (.int .u32 q):=hc2';generalize wr.drewN nq=wq at*
     go_wp2
     go_quiet (first|(go_at_call 146;exact Calls.quiet_of_same (cmpu_any _ _ _)))
     go_wp2
     go_ret
     exact⟨ret_int R5.out,below_drewN hb1 _⟩
 ·have hnl:(((digs x).length:Int) !=((digs y).length:Int))=true:=by simp[Int.natCast_inj,hlen]
  have hc:Lib.compareInt ((digs x).length:Int) ((digs y).length:Int)=cmpN x y:=compareInt_cmpN (by omega) (fun h=>L1.out (by omega)) (fun h=>L2.out (by omega))
  have HC:=Lib.hid hc;clear hlen hc
  go_enter Tryz.func137,Tryz.ntmps137
  go_wp2_with (go_at_call 135;refine(Tryz.cmp_Compare_int _ _ _).mono ?_;rintro e w' ⟨rfl,rfl⟩)
  go_ret
  exact⟨ret_int HC.out,Below.refl _ _⟩
theorem wrap_u64_mod(n:Int):IntKind.u64.wrap n=n %18446744073709551616:=IntKind.wrap_u64 n
theorem sub_wrap (z b y:Int):IntKind.u64.wrap (IntKind.u64.wrap (z-b)-y)=(z-b-y)%18446744073709551616:=by
 rw[IntKind.wrap_u64,IntKind.wrap_u64];omega
theorem grownBy_trans {a w w':World} {row:Option Nat} (h:a.grownBy w row) (k:w.grownBy w' row):a.grownBy w' row:=
 ⟨k.os.trans h.os,k.tape.trans h.tape,k.output.trans h.output,Nat.le_trans h.size k.size,fun i hi hne=>(k.block i (Nat.lt_of_lt_of_le hi h.size) hne).trans (h.block i hi hne)⟩
theorem grownBy_setCell (w:World) (b i:Nat) (v:Value):w.grownBy (w.setCell ⟨b,i,none⟩ v) (some b):=
 ⟨rfl,rfl,rfl,by simp[World.setCell],fun k _ hne=>Below.heap_setCell _ _ _ _ (fun e=>hne (by rw[e]))⟩
theorem U32s.len_cap {w:World} {B g n cap:Nat} {l:List Int} (h:U32s w B (.slice (some ⟨g,0,none⟩) n cap) l):n=l.length∧l.length≤cap∧cap≤maxLen∧B≤g∧g<w.heap.size:=by
 rcases h.2 with⟨hv,_⟩|⟨g',cap',cur,hv,hb,hg,hnc,hcm,hcs,htake⟩
 ·cases hv
 ·simp only[Value.slice.injEq,Option.some.injEq,Addr.mk.injEq] at hv
  obtain⟨⟨rfl,_⟩,rfl,rfl⟩:=hv
  exact⟨rfl,hnc,hcm,hb,(Array.getElem?_eq_some_iff.1 hg).1⟩
theorem nsubtract_any (u v:List Int) (g cap:Nat) (vv:Value) (B:Nat) (w:World) (hu:Dig u) (hv:Dig v) (h:U32s w B (.slice (some ⟨g,0,none⟩) u.length cap) u) (h':U32s w 0 vv v) (hne:some g≠vv.ownBlock) (hl:v.length≤u.length) (hle:dv v≤dv u):
  Calls Tryz.prog 131 #[.slice (some ⟨g,0,none⟩) u.length cap,vv] w fun e w'=>(∃v,e= .returned v)∧(∃out,Dig out∧out.length=u.length∧dv out=dv u-dv v∧U32s w' B (.slice (some ⟨g,0,none⟩) u.length cap) out)∧w.grownBy w' (some g):=by
 obtain⟨a',cap',rfl,hc',hm',hcell'⟩:=h'.open;have hcu:=h.len_cap;unfold maxLen at hm' hcu;have Hcell':=Lib.hid hcell';clear hcell';have Hle:=Lib.hid hle;clear hle
 go_enter Tryz.func131,Tryz.ntmps131
 go_wp2
 go_loopw [4,9] (fun c k wr=> ∃(out:List Int) (b:Int) (kk:Nat),U32s wr B (.slice (some ⟨g,0,none⟩) u.length cap) (out++u.drop kk)∧MI u v kk out b∧kk≤u.length∧c= .int .u64 b∧k= .int .i64 kk∧w.grownBy wr (some g)) (fun _ k _=>u.length-(intOf k).toNat)
 case atStart=>exact⟨[],0,0,by simpa using h,MI.start u v,by omega,rfl,rfl,World.grownBy.refl _ _⟩
 case round=>
  obtain⟨out,b,kk,ho,hmi,hkl,rfl,rfl,hgr⟩:=hrel;have hol:=hmi.2.1;have hb0:=hmi.2.2.1;have hb1:=hmi.2.2.2.1
  by_cases hlt:kk<u.length
  ·obtain⟨c1,c2⟩:=ho.at kk (by simp;omega)
   rw[get_mid hol hlt] at c1;have hz:=hu.get kk hlt;have hnx:=Lib.hid (hmi.step hu hv hlt);have hset:=Lib.hid (fun z=>(ho.set kk z).of_eq (set_mid hol hlt z))
   by_cases hlv:kk<v.length
   ·obtain⟨g',hg1',hg2',rfl,hc1'⟩:=Hcell'.out kk hlv
    have hc2':wr.cell? ⟨g',kk,none⟩=some (.int .u32 v[kk]):=hgr.cell hc1' (fun e=>hne e.symm);have hy:=hv.get kk hlv;rw[gd_lt hlv] at hnx;generalize v[kk]=y at hc2' hy hnx;generalize u[kk]=z at c1 hz hnx;clear hc1'
    go_wp2
    rw[sub_wrap]
    go_roundw
    case rel=>exact⟨_,_,kk+1,hset.out _,hnx.out,by omega,rfl,by go_num,grownBy_trans hgr (grownBy_setCell _ g kk _)⟩
    case measure=>simp[intOf];omega
   ·rw[gd_ge hlv,Int.sub_zero] at hnx
    generalize u[kk]=z at c1 hz hnx
    go_wp2
    rw[wrap_u64_mod]
    go_roundw
    case rel=>exact⟨_,_,kk+1,hset.out _,hnx.out,by omega,rfl,by go_num,grownBy_trans hgr (grownBy_setCell _ g kk _)⟩
    case measure=>simp[intOf];omega
  ·obtain rfl:kk=u.length:=by omega
   have hd:=Lib.hid (hmi.done hl Hle.out)
   go_wp2
   go_end0
   exact⟨⟨_,rfl⟩,⟨out,hd.out.1,hol,hd.out.2,by simpa using ho⟩,hgr⟩
theorem nsubtract_nil (v:List Int) (a:Option Addr) (cap:Nat) (vv:Value) (w:World) (h':U32s w 0 vv v) (_:v.length≤0):
  Calls Tryz.prog 131 #[.slice a 0 cap,vv] w fun e w'=>(∃v,e= .returned v)∧w=w':=by
 obtain⟨a',cap',rfl,hc',hm',hcell'⟩:=h'.open;clear hcell'
 go_enter Tryz.func131,Tryz.ntmps131
 go_wp2
 go_loop [4,9] (fun c k=>k= .int .i64 0) (fun _ k=>0)
 case atStart=>rfl
 case round=>
  subst hrel
  go_wp2
  go_end0
  exact⟨⟨_,rfl⟩,rfl⟩
theorem nsubtract_call (u v:List Int) (vu vv:Value) (B:Nat) (w:World) (hu:Dig u) (hv:Dig v) (h:U32s w B vu u) (h':U32s w 0 vv v) (hne: ∀k,vu.ownBlock=some k→some k≠vv.ownBlock) (hl:v.length≤u.length) (hle:dv v≤dv u):
  Calls Tryz.prog 131 #[vu,vv] w fun e w'=>(∃v,e= .returned v)∧(∃out,Dig out∧out.length=u.length∧dv out=dv u-dv v∧U32s w' B vu out)∧w.grownBy w' vu.ownBlock:=by
 obtain⟨a,cap,rfl,hc,hm,hcell⟩:=h.open
 by_cases h0:0<u.length
 ·obtain⟨g,_,_,rfl,_⟩:=hcell 0 h0
  exact nsubtract_any u v g cap vv B w hu hv h h' (hne g rfl) hl hle
 ·have eu:u= []:=List.eq_nil_of_length_eq_zero (by omega)
  have ev:v= []:=List.eq_nil_of_length_eq_zero (by omega)
  subst eu ev
  refine(nsubtract_nil [] a cap vv w h' (Nat.le_refl _)).mono ?_
  rintro e w' ⟨he,rfl⟩
  exact⟨he,⟨[],Dig.nil,rfl,by simp[dv],h⟩,World.grownBy.refl _ _⟩
end Go.Proofs.YtinmmkcjjlconaaGreat
namespace Go.Proofs.YtinmmkcjjlconaaGreat
open Go.RowKit W
open Pl (bval enc bv nb u8 u8_toNat tk nb_size_le bv_nb bv_lt nb_bv_size nb_size_zero cmpN cmpN_lt cmpN_gt cmpN_eq)
theorem val_str{n m:Nat}(h:n=m):Value.string (nb n)= .string (nb m):=by rw[h]
theorem U32s.ne_own{w:World}{B:Nat}{v:Value}{l:List Int}(h:U32s w B v l){g:Nat}(hg:g<B):some g≠v.ownBlock:=fun e=>by have:=h.own g e.symm;omega
theorem U32s.kept{w w':World}{B:Nat}{v:Value}{l:List Int}{row:Option Nat}(h:U32s w B v l)(hg:w.grownBy w' row)(hne:v.ownBlock=none∨v.ownBlock≠row):U32s w' B v l:=World.ownsRow.kept h hg hne
theorem U32s.lt{w:World}{B:Nat}{v:Value}{l:List Int}(h:U32s w B v l): ∀k,v.ownBlock=some k→k<w.heap.size:=fun k hk=>(World.ownsRow.lt h k hk).2
theorem nadd_any (s t:ByteArray) (w:World) (hs:s.size≤1073741823) (ht:t.size≤1073741823):
  Calls Tryz.prog 99 #[.string s,.string t] w fun e w'=>e= .returned (.string (nb (bv s+bv t)))∧Below w.heap.size w w':=by
 have l1:=digs_len_bv s;have l2:=digs_len_bv t
 go_enter Tryz.func99,Tryz.ntmps99
 go_wp2_with fail
 refine(limbs_any s _ (by omega)).mono ?_
 rintro e w1 ⟨⟨v1,rfl,hv1⟩,hb1⟩
 go_wp2_with fail
 refine(limbs_any t _ (by omega)).mono ?_
 rintro e w2 ⟨⟨v2,rfl,hv2⟩,hb2⟩;have hb:=hb1.tr hb2;have hv1':=hv1.below hb2
 have hn1:=fun(k:Nat) (e1:v1.ownBlock=some k) (e2:v2.ownBlock=some k)=>(show False from by have:=hv1.lt k e1;have:=hv2.own k e2;omega)
 have HN:=Lib.hid hn1;have hv2':=hv2.low hb1.size;clear hv1 hn1 hv2;obtain⟨a,cap,rfl,hc,hm,hcell⟩:=hv1'.open;obtain⟨a',cap',rfl,hc',hm',hcell'⟩:=hv2'.open;unfold maxLen at hm hm';have Hcell:=Lib.hid hcell;have Hcell':=Lib.hid hcell';clear hcell hcell';have hu:=digs_dig (bv s);have hv:=digs_dig (bv t);have e1:=dv_digs (bv s);have e2:=dv_digs (bv t);have E1:=Lib.hid e1
 have E2:=Lib.hid e2;clear e1 e2;generalize digs (bv s)=u at*;generalize digs (bv t)=v at*
 rcases Nat.lt_or_ge u.length v.length with hl|hl
 ·have hle:u.length≤v.length:=by omega
  go_wp2_with fail
  clear hl
  go_loopw [7,23] (fun c k wr=> ∃(out:List Int) (cc:Int) (kk:Nat),U32s wr w.heap.size (.slice a' v.length cap') (out++v.drop kk)∧SI v u kk out cc∧kk≤v.length∧c= .int .u64 cc∧k= .int .i64 kk∧w2.grownBy wr (Value.slice a' v.length cap').ownBlock) (fun _ k _=>v.length-(intOf k).toNat)
  case atStart=>exact⟨[],0,0,by simpa using hv2',SI.start v u,by omega,rfl,rfl,World.grownBy.refl _ _⟩
  case round=>
   obtain⟨out,cc,kk,ho,hsi,hkl,rfl,rfl,hgr⟩:=hrel;have hol:=hsi.2.1;have hc0:=hsi.2.2.1;have hc1:=hsi.2.2.2.1
   by_cases hlt:kk<v.length
   ·obtain⟨g,hg1,hg2,rfl,hc3⟩:=Hcell'.out kk hlt
    clear hc3
    obtain⟨c1,c2⟩:=ho.at kk (by simp;omega)
    rw[get_mid hol hlt] at c1;have hz:=hv.get kk hlt;have hnx:=Lib.hid (hsi.succ hv hu hlt);have hset:=Lib.hid (fun z=>(ho.set kk z).of_eq (set_mid hol hlt z))
    by_cases hlv:kk<u.length
    ·obtain⟨g',hg1',hg2',rfl,hc1'⟩:=Hcell.out kk hlv
     have hc2':wr.cell? ⟨g',kk,none⟩=some (.int .u32 u[kk]):=hgr.cell hc1' (fun e=>HN.out g' rfl e.symm);have hy:=hu.get kk hlv;rw[gd_lt hlv] at hnx;generalize u[kk]=y at hc2' hy hnx;generalize v[kk]=z at c1 hz hnx;clear hc1'
     go_wp2
     go_roundw
     case rel=>exact⟨_,_,kk+1,hset.out _,hnx.out,by omega,rfl,by go_num,grownBy_trans hgr (grownBy_setCell _ g kk _)⟩
     case measure=>simp[intOf];omega
    ·rw[gd_ge hlv,Int.add_zero] at hnx
     generalize v[kk]=z at c1 hz hnx
     go_wp2
     go_roundw
     case rel=>exact⟨_,_,kk+1,hset.out _,hnx.out,by omega,rfl,by go_num,grownBy_trans hgr (grownBy_setCell _ g kk _)⟩
     case measure=>simp[intOf];omega
   ·obtain rfl:kk=v.length:=by omega
    obtain⟨hd1,hd2⟩:=hsi.done hle;have HD:=Lib.hid hd2;clear hd2;have hbel:=hb.grown hgr hb.size (fun k e=>hv2'.own k e)
    have ho2:U32s wr w.heap.size (.slice a' v.length cap') out:=by simpa using ho
    go_wp2_with (at_builtin;refine app_u32 (by rfl) (by rfl) (by rfl) (by rfl) w.heap.size ho2 (by omega) hbel.size ?_;intro v3 w3 ho3 hg3)
    have hbel3:=hbel.grown hg3 hbel.size ho2.own
    refine(nnumber_any _ _ _ _ hd1 ho3 (by simp;omega)).mono ?_
    rintro e w4 ⟨rfl,hb4⟩
    go_wp2_with fail
    go_ret
    exact⟨ret_str (by rw[HD.out,E1.out,E2.out,show((bv t:Int)+(bv s:Int)).toNat=bv s+bv t from by omega]),hbel3.tr hb4⟩
 ·have hle:v.length≤u.length:=by omega
  go_wp2_with fail
  clear hl
  go_loopw [7,23] (fun c k wr=> ∃(out:List Int) (cc:Int) (kk:Nat),U32s wr w.heap.size (.slice a u.length cap) (out++u.drop kk)∧SI u v kk out cc∧kk≤u.length∧c= .int .u64 cc∧k= .int .i64 kk∧w2.grownBy wr (Value.slice a u.length cap).ownBlock) (fun _ k _=>u.length-(intOf k).toNat)
  case atStart=>exact⟨[],0,0,by simpa using hv1',SI.start u v,by omega,rfl,rfl,World.grownBy.refl _ _⟩
  case round=>
   obtain⟨out,cc,kk,ho,hsi,hkl,rfl,rfl,hgr⟩:=hrel;have hol:=hsi.2.1;have hc0:=hsi.2.2.1;have hc1:=hsi.2.2.2.1
   by_cases hlt:kk<u.length
   ·obtain⟨g,hg1,hg2,rfl,hc3⟩:=Hcell.out kk hlt
    clear hc3
    obtain⟨c1,c2⟩:=ho.at kk (by simp;omega)
    rw[get_mid hol hlt] at c1;have hz:=hu.get kk hlt;have hnx:=Lib.hid (hsi.succ hu hv hlt);have hset:=Lib.hid (fun z=>(ho.set kk z).of_eq (set_mid hol hlt z))
    by_cases hlv:kk<v.length
    ·obtain⟨g',hg1',hg2',rfl,hc1'⟩:=Hcell'.out kk hlv
     have hc2':wr.cell? ⟨g',kk,none⟩=some (.int .u32 v[kk]):=hgr.cell hc1' (fun e=>HN.out g' e.symm rfl);have hy:=hv.get kk hlv;rw[gd_lt hlv] at hnx;generalize v[kk]=y at hc2' hy hnx;generalize u[kk]=z at c1 hz hnx;clear hc1'
     go_wp2
     go_roundw
     case rel=>exact⟨_,_,kk+1,hset.out _,hnx.out,by omega,rfl,by go_num,grownBy_trans hgr (grownBy_setCell _ g kk _)⟩
     case measure=>simp[intOf];omega
    ·rw[gd_ge hlv,Int.add_zero] at hnx
     generalize u[kk]=z at c1 hz hnx
     go_wp2
     go_roundw
     case rel=>exact⟨_,_,kk+1,hset.out _,hnx.out,by omega,rfl,by go_num,grownBy_trans hgr (grownBy_setCell _ g kk _)⟩
     case measure=>simp[intOf];omega
   ·obtain rfl:kk=u.length:=by omega
    obtain⟨hd1,hd2⟩:=hsi.done hle;have HD:=Lib.hid hd2;clear hd2;have hbel:=hb.grown hgr hb.size (fun k e=>hv1'.own k e)
    have ho2:U32s wr w.heap.size (.slice a u.length cap) out:=by simpa using ho
    go_wp2_with (at_builtin;refine app_u32 (by rfl) (by rfl) (by rfl) (by rfl) w.heap.size ho2 (by omega) hbel.size ?_;intro v3 w3 ho3 hg3)
    have hbel3:=hbel.grown hg3 hbel.size ho2.own
    refine(nnumber_any _ _ _ _ hd1 ho3 (by simp;omega)).mono ?_
    rintro e w4 ⟨rfl,hb4⟩
    go_wp2_with fail
    go_ret
    exact⟨ret_str (by rw[HD.out,E1.out,E2.out,show((bv s:Int)+(bv t:Int)).toNat=bv s+bv t from by omega]),hbel3.tr hb4⟩
theorem nsub_no (s t:ByteArray) (w:World) (hs:s.size≤1073741823) (ht:t.size≤1073741823) (h:bv s<bv t):
  Calls Tryz.prog 110 #[.string s,.string t] w fun e w'=>e= .returned (.tuple #[.string ⟨#[]⟩,.bool false])∧w=w':=by
 have hc:=cmpN_lt h
 go_enter Tryz.func110,Tryz.ntmps110
 go_wp2_with fail
 refine(ncmp_any s t _ (by omega) (by omega)).mono ?_
 rw[hc];rintro e w' ⟨rfl,rfl⟩
 go_wp2_with fail
 go_ret2
 exact⟨rfl,rfl⟩
theorem nsub_yes (s t:ByteArray) (w:World) (hs:s.size≤1073741823) (ht:t.size≤1073741823) (h:bv t≤bv s):
  Calls Tryz.prog 110 #[.string s,.string t] w fun e w'=>e= .returned (.tuple #[.string (nb (bv s-bv t)),.bool true])∧Below w.heap.size w w':=by
 have hc:0≤cmpN (bv s) (bv t):=by unfold cmpN;split<;>first|omega|(split<;>omega)
 have l1:=digs_len_bv s;have l2:=digs_len_bv t
 go_enter Tryz.func110,Tryz.ntmps110
 go_wp2_with fail
 refine(ncmp_any s t _ (by omega) (by omega)).mono ?_
 generalize cmpN (bv s) (bv t)=c at hc;rintro e w' ⟨rfl,rfl⟩
 go_wp2_with fail
 refine(limbs_any s _ (by omega)).mono ?_
 rintro e w1 ⟨⟨v1,rfl,hv1⟩,hb1⟩
 go_wp2_with fail
 refine(limbs_any t _ (by omega)).mono ?_
 rintro e w2 ⟨⟨v2,rfl,hv2⟩,hb2⟩;have hb:=hb1.tr hb2;have hv1':=hv1.below hb2
 have hn1: ∀k,v1.ownBlock=some k→some k≠v2.ownBlock:=fun k e1 e2=>by have:=hv1.lt k e1;have:=hv2.own k e2.symm;omega
 have hu:=digs_dig (bv s);have hv:=digs_dig (bv t);have e1:=dv_digs (bv s);have e2:=dv_digs (bv t);have hll:=digs_len_mono h
 have hle:dv (digs (bv t))≤dv (digs (bv s)):=by rw[e1,e2];omega
 have HF:=Lib.hid (show(dv (digs (bv s))-dv (digs (bv t))).toNat=bv s-bv t by rw[e1,e2];omega)
 clear e1 e2 hc h;generalize digs (bv s)=u at*;generalize digs (bv t)=v at*
 go_wp2_with fail
 refine(nsubtract_call u v v1 v2 w.heap.size _ hu hv hv1' (hv2.low (Nat.zero_le _)) hn1 hll hle).mono ?_
 rintro e w3 ⟨⟨vr,rfl⟩,⟨out,hd,hol,hdo,ho⟩,hg⟩;have hb3:=hb.grown hg hb.size hv1'.own;clear hle
 go_wp2_with fail
 refine(nnumber_any _ _ _ _ hd ho (by omega)).mono ?_
 rintro e w4 ⟨rfl,hb4⟩
 go_wp2_with fail
 go_ret2
 exact⟨ret2 (val_str HF.out) rfl,hb3.tr hb4⟩
theorem nmul_any (s t:ByteArray) (w:World) (hs:s.size≤134217728) (ht:t.size≤134217728):
  Calls Tryz.prog 108 #[.string s,.string t] w fun e w'=>e= .returned (.string (nb (bv s*bv t)))∧Below w.heap.size w w':=by
 have l1:=digs_len_bv s;have l2:=digs_len_bv t
 go_enter Tryz.func108,Tryz.ntmps108
 go_wp2_with fail
 refine(limbs_any s _ (by omega)).mono ?_
 rintro e w1 ⟨⟨v1,rfl,hv1⟩,hb1⟩
 go_wp2_with fail
 refine(limbs_any t _ (by omega)).mono ?_
 rintro e w2 ⟨⟨v2,rfl,hv2⟩,hb2⟩;have hb:=hb1.tr hb2;have hv1':=hv1.below hb2;clear hv1;obtain⟨a,cap,rfl,hc,hm,hcell⟩:=hv1'.open;obtain⟨a',cap',rfl,hc',hm',hcell'⟩:=hv2.open;unfold maxLen at hm hm';have Hcell:=Lib.hid hcell;have Hcell':=Lib.hid hcell';clear hcell hcell';have hu:=digs_dig (bv s);have hv:=digs_dig (bv t);have e1:=dv_digs (bv s)
 have e2:=dv_digs (bv t);have E1:=Lib.hid e1;have E2:=Lib.hid e2;clear e1 e2;generalize digs (bv s)=u at*;generalize digs (bv t)=v at*
 have hmk:=urun_mk ((u.length:Int)+(v.length:Int)) (u.length+v.length) (by simp) (by omega)
 have hmade:=U32s.made w2 (u.length+v.length) (by omega)
 have Hmade:=Lib.hid hmade;clear hmade
 go_wp2_with fail
 clear hmk;generalize hg:w2.heap.size=g at*
 have hbw:Below g w2 (w2.alloc (.cells (uzrow (u.length+v.length)) 138)):=(Below.refl _ _).alloc (by omega) _
 go_loopw [26] (fun i wr=> ∃(ii:Nat) (out:List Int),ii≤u.length∧U32s wr g (.slice (some ⟨g,0,none⟩) (u.length+v.length) (u.length+v.length)) out∧(∀x,XI u v ii 0 x out 0)∧i= .int .i64 ii∧Below g w2 wr∧g<wr.heap.size) (fun i _=>u.length-(intOf i).toNat)
 case atStart=>exact⟨0,_,by omega,Hmade.out,fun x=>XI.start u v x,rfl,hbw,by simp[hg]⟩
 case round=>
  obtain⟨i,out,hiu,ho,hxi,rfl,hbel,hgr⟩:=hrel;have hol:=(hxi 0).len;have Hol:=Lib.hid hol;have Hxi:=Lib.hid hxi;clear hol hxi
  by_cases hlt:i<u.length
  ·obtain⟨gu,_,hgu,rfl,hcu⟩:=Hcell.out i hlt
   have hcu':wr.cell? ⟨gu,i,none⟩=some (.int .u32 u[i]):=by rw[hbel.cell (p:=⟨gu,i,none⟩) hgu];exact hcu
   have hx:=hu.get i hlt;generalize hxe:u[i]=x at hcu hcu' hx;have HXE:=Lib.hid hxe;obtain⟨hx0,hx1⟩:=hx;have Hcu:=Lib.hid hcu;clear hcu hxe;obtain⟨wo,rfl⟩: ∃wo:World,wo=wr:=⟨_,rfl⟩
   go_wp2_with fail
   go_loopw [10,33] (fun c j wr=> ∃(jj:Nat) (cc:Int) (out:List Int),jj≤v.length∧U32s wr g (.slice (some ⟨g,0,none⟩) (u.length+v.length) (u.length+v.length)) out∧XI u v i jj x out cc∧c= .int .u64 cc∧j= .int .i64 jj∧Below g w2 wr∧g<wr.heap.size) (fun _ j _=>v.length-(intOf j).toNat)
   case atStart=>exact⟨0,0,out,by omega,ho,Hxi.out x,rfl,rfl,hbel,hgr⟩
   case round=>
    obtain⟨j,c,out,hjv,ho,hX,rfl,rfl,hbel,hgr⟩:=hrel;have hol:=hX.len;have Hol:=Lib.hid hol;clear hol;have hc0:=hX.c0;have hc1:=hX.c1
    by_cases hlt2:j<v.length
    ·obtain⟨gv,_,hgv,rfl,hcv⟩:=Hcell'.out j hlt2
     have hcv':wr.cell? ⟨gv,j,none⟩=some (.int .u32 v[j]):=by rw[hbel.cell (p:=⟨gv,j,none⟩) (by omega)];exact hcv
     have hij:i+j<out.length:=by have:=Hol.out;omega
     obtain⟨hcell,hfr⟩:=ho.at (i+j) hij;have hy:=hv.get j hlt2;generalize hye:v[j]=y at hcv hcv' hy;obtain⟨hy0,hy1⟩:=hy;have hnx:=hX.step hx0 hx1 hlt2 hye hy0 hy1 hij;have hbd:=hX.bound hx0 hx1 hy0 hy1 hij;have hset:=ho.set (i+j) ((out[i+j]+x*y+c)%4294967296)
     rw[show out[i+j]+x*y+c=x*y+out[i+j]+c by omega] at hset hnx
     generalize out[i+j]=o at hcell hnx hbd hset;obtain⟨o0,o1,o2,o3,o4,o5⟩:=hbd
     have o6:x*y+o+c<18446744073709551616:=by omega
     have Hset:=Lib.hid hset;have Hnx:=Lib.hid hnx;clear hcv hye hset hnx
     have k0:(0:Int)≤(i:Int)+(j:Int):=by omega
     have k1:(i:Int)+(j:Int)<((u.length+v.length:Nat):Int):=by omega
     have k1':(i:Int)+(j:Int)<(u.length:Int)+(v.length:Int):=by omega
     have k2:((i:Int)+(j:Int)).toNat=i+j:=by omega
     go_wp2_with fail
     go_roundw
     case rel=>exact⟨j+1,_,_,by omega,Hset.out,Hnx.out,rfl,by go_num,hbel.setCell (Nat.le_refl _) _,by simp[World.setCell];exact hgr⟩
     case measure=>simp[intOf];omega
    ·have hij:i+v.length<out.length:=by have:=Hol.out;omega
     obtain⟨hcell,hfr⟩:=ho.at (i+v.length) hij
     have hX':XI u v i v.length x out c:=by rw[show v.length=j by omega];exact hX
     have hnx:=fun x'=>hX'.next (x':=x') hlt HXE.out hij;have hset:=ho.set (i+v.length) c;generalize out[i+v.length]=o at hcell;have Hset:=Lib.hid hset;have Hnx:=Lib.hid hnx;clear hset hnx
     have k0:(0:Int)≤(i:Int)+(v.length:Int):=by omega
     have k1:(i:Int)+(v.length:Int)<((u.length+v.length:Nat):Int):=by omega
     have k1':(i:Int)+(v.length:Int)<(u.length:Int)+(v.length:Int):=by omega
     have k2:((i:Int)+(v.length:Int)).toNat=i+v.length:=by omega
     go_wp2
     go_roundw
     case rel=>exact⟨i+1,_,by omega,Hset.out,Hnx.out,by go_num,hbel.setCell (Nat.le_refl _) _,by simp[World.setCell];exact hgr⟩
     case measure=>simp[intOf];omega
  ·have hX:=Hxi.out 0
   have hdone:=XI.done (by rw[show u.length=i by omega];exact hX) rfl
   have HD:=Lib.hid hdone;have hdg:=hX.dig;clear hdone hX;have hbz:=hb.size
   go_wp2_with (go_at_call 123;refine(nnumber_any _ _ _ _ hdg ho (by have:=Hol.out;omega)).mono ?_;rintro e w3 ⟨rfl,hb3⟩)
   go_ret
   exact⟨ret_str (by congr 1;rw[HD.out,E1.out,E2.out,←Int.natCast_mul];omega),(hb.trans (hbel.mono (by omega))).trans (hb3.mono (by omega))⟩
end Go.Proofs.YtinmmkcjjlconaaGreat
namespace Go.Proofs.YtinmmkcjjlconaaGreat
open Go.RowKit W
open Pl (bval enc bv nb u8 u8_toNat tk nb_size_le bv_nb bv_lt nb_bv_size nb_size_zero cmpN cmpN_lt cmpN_gt cmpN_eq)
theorem or_limb (r z:Int) (hr0:0≤r) (hr:r<4294967296) (hz0:0≤z) (hz:z<4294967296):bits BinOp.or IntKind.u64 (r*4294967296) z=r*4294967296+z:=
 bits_join .u64 64 (by decide) wraps_u64 32 _ _ (by omega) (by omega) (by omega) (by omega) (by omega) (by omega)
theorem short_sum {r V:Nat} {z:Int} (hr:r<V) (hV1:V<4294967296) (hz0:0≤z) (hz:z<4294967296):bits BinOp.or IntKind.u64 ((r:Int)*4294967296) z=((z.toNat+4294967296*r:Nat):Int):=by
 rw[or_limb _ _ (by omega) (by omega) hz0 hz];omega
theorem short_quo {r V:Nat} {z:Int} (hr:r<V) (hV1:V<4294967296) (hz0:0≤z) (hz:z<4294967296):IntKind.u64.wrap ((bits BinOp.or IntKind.u64 ((r:Int)*4294967296) z).tdiv V)%4294967296=(((z.toNat+4294967296*r)/V:Nat):Int):=by
 rw[short_sum hr hV1 hz0 hz]
 have h1:(z.toNat+4294967296*r)/V<4294967296:=Nat.div_lt_of_lt_mul (by omega)
 rw[show(((z.toNat+4294967296*r:Nat):Int).tdiv V)=(((z.toNat+4294967296*r)/V:Nat):Int) from rfl,IntKind.wrap_u64];generalize (z.toNat+4294967296*r)/V=q at*
 omega
theorem short_rem {r V:Nat} {z:Int} (hr:r<V) (hV1:V<4294967296) (hz0:0≤z) (hz:z<4294967296):(bits BinOp.or IntKind.u64 ((r:Int)*4294967296) z).tmod V=(((z.toNat+4294967296*r)%V:Nat):Int):=by
 rw[short_sum hr hV1 hz0 hz];rfl
theorem nshort_any (x:List Int) (vx:Value) (V B:Nat) (w:World) (hx:Dig x) (h:U32s w B vx x) (hV:0<V) (hV1:V<4294967296) (hlen:x.length≤1073741824):
  Calls Tryz.prog 138 #[vx,.int .u32 V] w fun e w'=>(∃v,e= .returned (.tuple #[v,.int .u32 (((dv x).toNat %V:Nat):Int)])∧U32s w' w.heap.size v (digs ((dv x).toNat/V)))∧Below w.heap.size w w':=by
 obtain⟨a,cap,rfl,hc,hm,hcell⟩:=h.open;unfold maxLen at hm;have Hcell:=Lib.hid hcell;clear hcell
 have hmk:=urun_mk (x.length:Int) x.length rfl (by omega)
 have hmade:=U32s.made w x.length (by omega)
 have Hmade:=Lib.hid hmade;clear hmade
 go_enter Tryz.func138,Tryz.ntmps138
 go_wp2_with fail
 clear hmk;generalize hg:w.heap.size=g at*
 have hbw:Below g w (w.alloc (.cells (uzrow x.length) 138)):=(Below.refl _ _).alloc (by omega) _
 go_loopw [7,8] (fun c k wr=> ∃(quo:List Int) (r m:Nat),m≤x.length∧QI x V m quo r∧U32s wr g (.slice (some ⟨g,0,none⟩) x.length x.length) quo∧c= .int .u64 r∧k= .int .i64 ((m:Int)-1)∧Below g w wr) (fun _ k _=>(intOf k+1).toNat)
 case atStart=>exact⟨_,0,x.length,Nat.le_refl _,QI.start x hV,Hmade.out,rfl,rfl,hbw⟩
 case round=>
  obtain⟨quo,r,m,hml,hq,ho,rfl,rfl,hbel⟩:=hrel;have hrl:=hq.lt;have hql:=hq.len
  cases m with
  |zero=>
   have hd:=Lib.hid (hq.done (N:=(dv x).toNat) (by have:=dv_nonneg hx;omega))
   have hdg:=hq.dig
   go_wp2_with (go_at_call 134;refine(utrim_any _ _ _ _ hdg ho).mono ?_;rintro e w' ⟨⟨v2,rfl,hv2⟩,rfl⟩)
   go_ret2
   subst hg
   exact⟨⟨v2,ret2 rfl (val_int (by rw[hd.out.2])),hv2.of_eq (by rw[hd.out.1])⟩,hbel⟩
  |succ m=>
   obtain⟨gx,hg1,hg2,rfl,hc1⟩:=Hcell.out m (by omega)
   have hc2:wr.cell? ⟨gx,m,none⟩=some (.int .u32 x[m]):=by rw[hbel.cell (p:=⟨gx,m,none⟩) (by omega)];exact hc1
   have em:((m+1:Nat):Int)-1=m:=by omega
   rw[em];clear em hc1
   have h0:(0:Int)≤m:=by omega
   have h1:(m:Int)<x.length:=by omega
   obtain⟨c1,c2⟩:=ho.at m (by omega)
   have hz:=hx.get m (by omega)
   have hst:=hq.step (m:=m) (by omega) rfl hz.1 hz.2
   have hset:=ho.set m;generalize x[m]=z at hc2 hz hst;have hst:=Lib.hid hst;have hset:=Lib.hid hset;obtain⟨hz0,hz1⟩:=hz;have hq2:=short_quo hrl hV1 hz0 hz1;have hr2:=short_rem hrl hV1 hz0 hz1;have hq3:=Lib.hid hq2;have hr3:=Lib.hid hr2;clear hq2 hr2
   go_wp2
   rw[hq3.out,hr3.out]
   go_roundw
   case rel=>exact⟨_,_,m,by omega,hst.out,hset.out _,rfl,rfl,hbel.setCell (Nat.le_refl _) _⟩
   case measure=>first|(simp[intOf];done)|(simp[intOf];omega)
theorem or_low {d p q low:Int} {i:Nat} (hp:p=2^i) (hpq:p*q=4294967296) (h0:0≤low) (h1:low<p):bits BinOp.or IntKind.u32 (d*p %4294967296) low=d*p %4294967296+low:=by
 have hp0:0<p:=by rw[hp];exact Int.pow_pos (by omega)
 have hd:=digit_lt (d:=d) hp0 hpq;have hm:=(mul_mod_div (d:=d) hp0 hpq).1;have hq:=q_pos hp0 hpq
 refine bits_join .u32 32 (by decide) wraps_u32 i _ _ (by omega) ?_ (by omega) h0 (by omega) (by omega)
 rw[hm,←hp,Int.mul_emod_right]
theorem nshifted_any (x:List Int) (vx:Value) (p q:Int) (i n B:Nat) (w:World) (hx:Dig x) (h:U32s w B vx x) (hi:i<32) (hp:p=2^i) (hq:q=2^(32-i)) (hlx:x.length≤n) (hlen:n≤1073741824) (hfit:dv x*p<4294967296^n):
  Calls Tryz.prog 140 #[vx,.int .i64 i,.int .i64 n] w fun e w'=>(∃g cap out,e= .returned (.slice (some ⟨g,0,none⟩) n cap)∧U32s w' w.heap.size (.slice (some ⟨g,0,none⟩) n cap) out∧Dig out∧out.length=n∧dv out=dv x*p)∧Below w.heap.size w w':=by
 obtain⟨a,cap,rfl,hc,hm,hcell⟩:=h.open;unfold maxLen at hm;have Hcell:=Lib.hid hcell;clear hcell
 have hpq:p*q=4294967296:=by rw[hp,hq,←Int.pow_add,show i+(32-i)=32 by omega];rfl
 have hp0:0<p:=by rw[hp];exact Int.pow_pos (by omega)
 have HP:=Lib.hid (And.intro hp (And.intro hq (And.intro hpq hfit)));clear hp hq hpq hfit
 have hmk:=urun_mk (n:Int) n rfl (by omega)
 have hmade:=U32s.made w n (by omega)
 have Hmade:=Lib.hid hmade;clear hmade
 go_enter Tryz.func140,Tryz.ntmps140
 go_wp2_with fail
 clear hmk;generalize hg:w.heap.size=g at*
 have hbw:Below g w (w.alloc (.cells (uzrow n) 138)):=(Below.refl _ _).alloc (by omega) _
 go_loopw [8,15] (fun c k wr=> ∃(out:List Int) (low:Int) (kk:Nat),kk≤n∧HI x p kk out low∧U32s wr g (.slice (some ⟨g,0,none⟩) n n) (out++(List.replicate n 0).drop kk)∧c= .int .u32 low∧k= .int .i64 kk∧Below g w wr) (fun _ k _=>n-(intOf k).toNat)
 case atStart=>exact⟨[],0,0,by omega,HI.start x hp0,by simpa using Hmade.out,rfl,rfl,hbw⟩
 case round=>
  obtain⟨out,low,kk,hkn,hh,ho,rfl,rfl,hbel⟩:=hrel;have hol:=hh.2.1;have hl0:=hh.2.2.1;have hl1:=hh.2.2.2.1
  by_cases hlt:kk<n
  ·obtain⟨c1,c2⟩:=ho.at kk (by simp;omega)
   have hset:=Lib.hid (fun z=>(ho.set kk z).of_eq (set_mid hol (by simpa using hlt) z))
   have hst:=Lib.hid (hh.succ hx hp0 HP.out.2.2.1)
   by_cases hlv:kk<x.length
   ·obtain⟨gx,hg1,hg2,rfl,hc1⟩:=Hcell.out kk hlv
    have hc2:wr.cell? ⟨gx,kk,none⟩=some (.int .u32 x[kk]):=by rw[hbel.cell (p:=⟨gx,kk,none⟩) (by omega)];exact hc1
    rw[gd_lt hlv] at hst;have hz:=hx.get kk hlv;clear hc1;generalize x[kk]=z at*
    go_wp2
    rw[show(2:Int)^i=p from HP.out.1.symm,show(2:Int)^(32-i)=q from HP.out.2.1.symm,or_low HP.out.1 HP.out.2.2.1 hl0 hl1]
    go_roundw
    case rel=>exact⟨_,_,kk+1,by omega,hst.out,hset.out _,rfl,by go_num,hbel.setCell (Nat.le_refl _) _⟩
    case measure=>simp[intOf];omega
   ·rw[gd_ge hlv,Int.zero_ediv] at hst
    have ho0:=or_low (d:=0) HP.out.1 HP.out.2.2.1 hl0 hl1;rw[Int.zero_mul,Int.zero_emod] at ho0 hst;have HO:=Lib.hid ho0;clear ho0
    go_wp2
    rw[HO.out]
    go_roundw
    case rel=>exact⟨_,_,kk+1,by omega,hst.out,hset.out _,rfl,by go_num,hbel.setCell (Nat.le_refl _) _⟩
    case measure=>simp[intOf];omega
  ·obtain rfl:kk=n:=by omega
   have hd:=Lib.hid (hh.done hlx HP.out.2.2.2)
   go_wp2
   go_ret
   subst hg
   exact⟨⟨_,_,out,rfl,by simpa using ho,hd.out.2.1,hd.out.2.2.1,hd.out.2.2.2⟩,hbel⟩
theorem or_high {z q r:Int} {V:Nat} {i:Nat} (hV:(V:Int)=2^i) (hq:q=2^(32-i)) (hi:i<32) (hz0:0≤z) (hz1:z<4294967296) (hr0:0≤r) (hr:r<V):
  bits BinOp.or IntKind.u32 (z/V) (r*q)=(((z.toNat+4294967296*r.toNat)/V:Nat):Int):=by
 have hpq:(V:Int)*q=4294967296:=by rw[hV,hq,←Int.pow_add,show i+(32-i)=32 by omega];rfl
 have hp0:0<(V:Int):=by omega
 have hq0:=q_pos hp0 hpq
 have h1:z/V<q:=Int.ediv_lt_of_lt_mul hp0 (by rw[Int.mul_comm];omega)
 have h0:0≤z/V:=Int.ediv_nonneg hz0 (by omega)
 have h2:r*q≤4294967296-q:=by
  have:=Int.mul_le_mul_of_nonneg_right (show r≤V-1 by omega) (Int.le_of_lt hq0)
  rw[Int.sub_mul,hpq] at this
  omega
 have h3:0≤r*q:=Int.mul_nonneg hr0 (Int.le_of_lt hq0)
 rw[bits_join_low .u32 32 (by decide) wraps_u32 (32-i) _ _ h0 (by rw[←hq];exact h1) (by omega) h3 (by rw[←hq,Int.mul_emod_left]) (by omega)]
 have e:(((z.toNat+4294967296*r.toNat)/V:Nat):Int)=(z+4294967296*r)/V:=by
  rw[Int.natCast_ediv];congr 1;omega
 rw[e,←hpq,Int.mul_assoc,Int.add_mul_ediv_left _ _ (Int.ne_of_gt hp0),Int.mul_comm q r]
theorem rem_low {z q r:Int} {V:Nat} {i:Nat} (hV:(V:Int)=2^i) (hq:q=2^(32-i)) (hi:i<32) (hz0:0≤z) (hr0:0≤r):
  z*q %4294967296=(((z.toNat+4294967296*r.toNat)%V:Nat):Int)*q:=by
 have hpq:(V:Int)*q=4294967296:=by rw[hV,hq,←Int.pow_add,show i+(32-i)=32 by omega];rfl
 have hp0:0<(V:Int):=by rw[hV];exact Int.pow_pos (by omega)
 have hq0:=q_pos hp0 hpq
 have e:=(mul_mod_div (d:=z) hq0 (by rw[Int.mul_comm];exact hpq)).1
 have e2:(((z.toNat+4294967296*r.toNat)%V:Nat):Int)=z %V:=by
  rw[Int.natCast_emod]
  have e3:((z.toNat+4294967296*r.toNat:Nat):Int)=z+V*(q*r):=by rw[←Int.mul_assoc,hpq];omega
  rw[e3,Int.add_mul_emod_self_left]
 rw[e,e2,Int.mul_comm]
theorem nunshifted_any (x:List Int) (vx:Value) (V i B:Nat) (w:World) (hx:Dig x) (h:U32s w B vx x) (hi:i<32) (hV:V=2^i) (hlen:x.length≤1073741824):
  Calls Tryz.prog 143 #[vx,.int .i64 i] w fun e w'=>(∃v,e= .returned v∧U32s w' w.heap.size v (digs ((dv x).toNat/V)))∧Below w.heap.size w w':=by
 obtain⟨a,cap,rfl,hc,hm,hcell⟩:=h.open;unfold maxLen at hm;have Hcell:=Lib.hid hcell;clear hcell
 have hV0:0<V:=by rw[hV];exact Nat.pow_pos (by omega)
 obtain⟨q,hq⟩: ∃q:Int,q=2^(32-i):=⟨_,rfl⟩
 have HP:=Lib.hid (And.intro (show(V:Int)=2^i by rw[hV];simp) hq)
 clear hV hq
 have hmk:=urun_mk (x.length:Int) x.length rfl (by omega)
 have hmade:=U32s.made w x.length (by omega)
 have Hmade:=Lib.hid hmade;clear hmade
 go_enter Tryz.func143,Tryz.ntmps143
 go_wp2_with fail
 clear hmk;generalize hg:w.heap.size=g at*
 have hbw:Below g w (w.alloc (.cells (uzrow x.length) 138)):=(Below.refl _ _).alloc (by omega) _
 go_loopw [6,7] (fun c k wr=> ∃(quo:List Int) (r m:Nat),m≤x.length∧QI x V m quo r∧U32s wr g (.slice (some ⟨g,0,none⟩) x.length x.length) quo∧c= .int .u32 (r*q)∧k= .int .i64 ((m:Int)-1)∧Below g w wr) (fun _ k _=>(intOf k+1).toNat)
 case atStart=>exact⟨_,0,x.length,Nat.le_refl _,QI.start x hV0,Hmade.out,by simp,rfl,hbw⟩
 case round=>
  obtain⟨quo,r,m,hml,hq,ho,rfl,rfl,hbel⟩:=hrel;have hrl:=hq.lt;have hql:=hq.len
  cases m with
  |zero=>
   have hd:=Lib.hid (hq.done (N:=(dv x).toNat) (by have:=dv_nonneg hx;omega))
   have hdg:=hq.dig
   go_wp2_with (go_at_call 134;refine(utrim_any _ _ _ _ hdg ho).mono ?_;rintro e w' ⟨⟨v2,rfl,hv2⟩,rfl⟩)
   go_ret
   subst hg
   exact⟨⟨v2,rfl,hv2.of_eq (by rw[hd.out.1])⟩,hbel⟩
  |succ m=>
   obtain⟨gx,hg1,hg2,rfl,hc1⟩:=Hcell.out m (by omega)
   have hc2:wr.cell? ⟨gx,m,none⟩=some (.int .u32 x[m]):=by rw[hbel.cell (p:=⟨gx,m,none⟩) (by omega)];exact hc1
   have em:((m+1:Nat):Int)-1=m:=by omega
   rw[em];clear em hc1
   have h0:(0:Int)≤m:=by omega
   have h1:(m:Int)<x.length:=by omega
   have hne:gx≠g:=by omega
   obtain⟨c1,c2⟩:=ho.at m (by omega)
   have hz:=hx.get m (by omega)
   have hst:=hq.step (m:=m) (by omega) rfl hz.1 hz.2
   have hset:=ho.set m;generalize x[m]=z at hc2 hz hst;have hst:=Lib.hid hst;have hset:=Lib.hid hset;obtain⟨hz0,hz1⟩:=hz
   have hoh:=or_high (r:=(r:Int)) HP.out.1 HP.out.2 hi hz0 hz1 (by omega) (by omega)
   have hrl:=rem_low (r:=(r:Int)) HP.out.1 HP.out.2 hi hz0 (by omega)
   rw[Int.toNat_natCast] at hoh hrl;have hoh:=Lib.hid hoh;have hrl:=Lib.hid hrl
   go_wp2
   rw[show(2:Int)^i=V from HP.out.1.symm,show(2:Int)^(32-i)=q from HP.out.2.symm,hoh.out,hrl.out]
   go_roundw
   case rel=>exact⟨_,_,m,by omega,hst.out,hset.out _,rfl,rfl,hbel.setCell (Nat.le_refl _) _⟩
   case measure=>first|(simp[intOf];done)|(simp[intOf];omega)
theorem nestimate_any (u0 u1 u2 v0 v1:Int) (w:World) (a0:0≤u0) (a0':u0<4294967296) (a1:0≤u1) (a2:u1<4294967296) (a3:0≤u2) (a4:u2<4294967296) (b0:2147483648≤v0) (b1:v0<4294967296) (c0:0≤v1) (c1:v1<4294967296) (hle:u0≤v0) (D:Int) (hES:ES u0 u1 u2 v0 v1 D):
  Calls Tryz.prog 141 #[.int .u32 u0,.int .u32 u1,.int .u32 u2,.int .u32 v0,.int .u32 v1] w fun e w'=>e= .returned (.int .u64 D)∧∃m,w'=w.drewN m:=by
 have HES:=Lib.hid hES;clear hES;have hei:=EI.start a0 a1 a2 a4 b0 b1 c0 hle;have hor:=or_limb u0 u1 a0 a0' a1 a2
 have hq:(u0*4294967296+u1).tdiv v0=(u0*4294967296+u1)/v0:=Int.tdiv_eq_ediv_of_nonneg (by omega)
 have hr:(u0*4294967296+u1).tmod v0=(u0*4294967296+u1)%v0:=Int.tmod_eq_emod_of_nonneg (by omega)
 generalize (u0*4294967296+u1)/v0=D0 at*;generalize (u0*4294967296+u1)%v0=L0 at*;have d0:=hei.d0;have d1:=hei.d1;have l0:=hei.l0;have l1:=hei.l1;have Hei:=Lib.hid hei;clear hei
 have hv: ¬v0=0:=by omega
 go_enter Tryz.func141,Tryz.ntmps141
 go_wp2
 go_step3
 go_wp2
 go_quiet (fail)
 rename_i nq
 have hbel: ∃m,w.drewN nq=w.drewN m:=⟨nq,rfl⟩;have HW:=Lib.hid hbel;clear hbel;generalize w.drewN nq=wq at*;clear hor hq hr d0 d1 l0 l1
 go_wp2
 go_step3
 go_wp2
 go_loop [12,13] (fun d l=> ∃E L:Int,EI u0 u1 u2 v0 v1 E L∧d= .int .u64 E∧l= .int .u64 L) (fun d _=>(intOf d).toNat)
 case atStart=>exact⟨D0,L0,Hei.out,rfl,rfl⟩
 case round=>
  obtain⟨E,L,hE,rfl,rfl⟩:=hrel;have d0:=hE.d0;have d1:=hE.d1;have l0:=hE.l0;have l1:=hE.l1;obtain⟨m0,m1⟩:=hE.mul_lt c0 c1;have hor:=or_limb L u2 l0 l1 a3 a4
  by_cases hD:4294967295<E
  ·have hst:=Lib.hid (fun h=>hE.step a3 b0 (.inl hD) h)
   have hsp:=Lib.hid (fun h=>hE.stop a2 a3 c1 hle (.inl hD) h)
   go_wp2
   ·go_ret
    exact⟨ret_int ((hsp.out (by omega)).unique HES.out),HW.out⟩
   ·go_round
    case rel=>exact⟨_,_,hst.out (by omega),rfl,rfl⟩
    case measure=>simp[intOf];omega
  ·by_cases hm:L*4294967296+u2<E*v1
   ·have hd1:1≤E:=(hE.down a3 (.inr hm)).1
    have hst:=Lib.hid (fun h=>hE.step a3 b0 (.inr hm) h);have hsp:=Lib.hid (fun h=>hE.stop a2 a3 c1 hle (.inr hm) h)
    go_wp2
    ·go_ret
     exact⟨ret_int ((hsp.out (by omega)).unique HES.out),HW.out⟩
    ·go_round
     case rel=>exact⟨_,_,hst.out (by omega),rfl,rfl⟩
     case measure=>simp[intOf];omega
   ·have hdn:=Lib.hid (hE.done (by omega) (by omega))
    go_wp2
    go_ret
    exact⟨ret_int (hdn.out.unique HES.out),HW.out⟩
end Go.Proofs.YtinmmkcjjlconaaGreat
namespace Go.Proofs.YtinmmkcjjlconaaGreat
open Go.RowKit W
theorem grownBy_drewN {a w:World} {row:Option Nat} (h:a.grownBy w row) (n:Nat):a.grownBy (w.drewN n) row:=by
 have hb:=below_drewN (Below.refl w.heap.size w) n
 exact grownBy_trans h ⟨hb.os,hb.tape,hb.output,hb.size,fun k hk _=>hb.block k hk⟩
theorem get_win {lo out win hi:List Int} {j k:Nat} (hlo:lo.length=j) (ho:out.length=k) (hk:k<win.length):(lo++((out++win.drop k)++hi))[j+k]'(by simp;omega)=win[k]:=by
 subst hlo ho
 rw[List.getElem_append_right (by omega)]
 simp only[Nat.add_sub_cancel_left]
 rw[List.getElem_append_left (by simp;omega),get_mid rfl hk]
theorem set_win {lo out win hi:List Int} {j k:Nat} (hlo:lo.length=j) (ho:out.length=k) (hk:k<win.length) (z:Int):(lo++((out++win.drop k)++hi)).set (j+k) z=lo++(((out++ [z])++win.drop (k+1))++hi):=by
 subst hlo ho
 rw[List.set_append_right _ _ (by omega),Nat.add_sub_cancel_left,List.set_append_left _ _ (by simp;omega),set_mid rfl hk]
structure TK (win v:List Int) (n:Nat) (Q:Int) (win':List Int):Prop where
  dig:Dig win'
  len:win'.length=n+1
  q0:0≤Q
  q1:Q<4294967296
  val:dv win=Q*dv v+dv win'
  lt:dv win'<dv v
  top:dv win'=dv (win'.take n)
theorem TK.ok1 {win v out:List Int} {n:Nat} {D:Int} (hd:Dig out) (hl:out.length=n) (h0:0≤D) (h1:D≤4294967295) (h2:dv out=dv win-D*dv v) (h3:dv win<(D+1)*dv v):TK win v n D (out++ [0]):=by
 have e:dv (out++ [0])=dv out:=by rw[dv_snoc];simp
 have e2:(D+1)*dv v=D*dv v+dv v:=by grind
 refine⟨hd.snoc (by omega) (by omega),by simp[hl],h0,by omega,by omega,by omega,?_⟩
 rw[e,List.take_left' hl]
theorem TK.ok2 {win v out:List Int} {n:Nat} {D:Int} (hd:Dig out) (hl:out.length=n) (h0:1≤D) (h1:D≤4294967295) (h2:dv out=dv win-D*dv v+dv v) (h3:dv win<D*dv v):TK win v n (D-1) (out++ [0]):=by
 have e:dv (out++ [0])=dv out:=by rw[dv_snoc];simp
 have e2:(D-1)*dv v=D*dv v-dv v:=by grind
 refine⟨hd.snoc (by omega) (by omega),by simp[hl],by omega,by omega,by omega,by omega,?_⟩
 rw[e,List.take_left' hl]
theorem ntake_any (lo win hi v:List Int) (vv:Value) (g j n L cap c0 B:Nat) (D:Int) (w:World) (hwin:Dig win) (hv:Dig v) (hlo:lo.length=j) (hwl:win.length=n+1) (hvl:v.length=n)
  (h:U32s w B (.slice (some ⟨g,0,none⟩) L cap) (lo++(win++hi))) (h':U32s w 0 vv v) (hne:some g≠vv.ownBlock) (hc0:n+1≤c0) (hc1:c0≤maxLen) (hL:L≤1073741825) (hD0:0≤D) (hD1:D≤4294967295)
  (hlow:(D-1)*dv v≤dv win) (hhigh:dv win<(D+1)*dv v):
  Calls Tryz.prog 142 #[.slice (some ⟨g,j,none⟩) (n+1) c0,vv,.int .u64 D] w fun e w'=>(∃Q win',e= .returned (.int .u32 Q)∧TK win v n Q win'∧U32s w' B (.slice (some ⟨g,0,none⟩) L cap) (lo++(win'++hi)))∧w.grownBy w' (some g):=by
 subst hvl;obtain⟨a',cap',rfl,hc',hm',hcell'⟩:=h'.open;have hlc:=h.len_cap
 have hlL:L=j+(v.length+1)+hi.length:=by rw[hlc.1];simp;omega
 unfold maxLen at hm' hc1;have Hcell':=Lib.hid hcell';have HLO:=Lib.hid (And.intro hlow hhigh);clear hcell' hlow hhigh hlc
 go_enter Tryz.func142,Tryz.ntmps142
 go_wp2
 go_loopw [7,8,18] (fun b c k wr=> ∃(out:List Int) (bb cc:Int) (kk:Nat),U32s wr B (.slice (some ⟨g,0,none⟩) L cap) (lo++((out++win.drop kk)++hi))∧KI win v D kk out bb cc∧kk≤v.length∧b= .int .u64 bb∧c= .int .u64 cc∧k= .int .i64 kk∧w.grownBy wr (some g)) (fun _ _ k _=>v.length-(intOf k).toNat)
 case atStart=>exact⟨[],0,0,0,by simpa using h,KI.start win v D,by omega,rfl,rfl,rfl,World.grownBy.refl _ _⟩
 case round=>
  obtain⟨out,b,c,kk,ho,hki,hkl,rfl,rfl,rfl,hgr⟩:=hrel;have hol:=hki.2.1;have hb0:=hki.2.2.1;have hb1:=hki.2.2.2.1;have hc2:=hki.2.2.2.2.1;have hc3:=hki.2.2.2.2.2.1
  by_cases hlt:kk<v.length
  ·have hlw:kk<win.length:=by omega
   obtain⟨c1,c2⟩:=ho.at (j+kk) (by simp;omega)
   rw[get_win hlo hol hlw] at c1;obtain⟨g',hg1',hg2',rfl,hc1'⟩:=Hcell'.out kk hlt;have hc2':wr.cell? ⟨g',kk,none⟩=some (.int .u32 v[kk]):=hgr.cell hc1' (fun e=>hne e.symm);have hz:=hwin.get kk hlw;have hy:=hv.get kk hlt
   have hbd:=hki.bound hv hlt hD0 (by omega)
   have hnx:=hki.succ hwin hv hlt hlw rfl rfl hD0 (by omega)
   have hset:=Lib.hid (fun z=>(ho.set (j+kk) z).of_eq (set_win hlo hol hlw z));generalize v[kk]=y at hc2' hy hbd hnx;generalize win[kk]=z at c1 hz hnx;have hnx:=Lib.hid hnx;clear hc1';obtain⟨d0,d1⟩:=hbd
   have d2:D*y<18446744073709551616:=by omega
   have d3:D*y+c<18446744073709551616:=by omega
   have d4:0≤D*y+c:=by omega
   go_wp2
   rw[sub_wrap]
   go_roundw
   case rel=>exact⟨_,_,_,kk+1,hset.out _,hnx.out,by omega,rfl,rfl,by go_num,grownBy_trans hgr (grownBy_setCell _ g (j+kk) _)⟩
   case measure=>simp[intOf];omega
  ·obtain rfl:kk=v.length:=by omega
   have hlw:v.length<win.length:=by omega
   obtain⟨c1,c2⟩:=ho.at (j+v.length) (by simp;omega)
   rw[get_win hlo hol hlw] at c1;have hz:=hwin.get v.length hlw;have hdn:=hki.done hv hwl rfl rfl HLO.out.1 HLO.out.2;have hset:=Lib.hid (fun z=>(ho.set (j+v.length) z).of_eq (set_win hlo hol hlw z));generalize win[v.length]=z at c1 hz hdn;have hdg:=hki.1
   rcases hdn with⟨e1,e2,e3⟩|⟨e1,e2,e3⟩
   ·have hw:IntKind.u64.wrap (IntKind.u64.wrap (z-c)-b)=0:=by rw[sub_wrap,e2];rfl
    have hk:=Lib.hid (TK.ok1 hdg hol hD0 hD1 e3 HLO.out.2);clear e1 e2 e3 hb0 hb1
    go_wp2
    go_ret
    exact⟨⟨_,_,rfl,hk.out,(hset.out _).of_eq (by rw[List.drop_of_length_le (by omega),List.append_nil])⟩,grownBy_trans hgr (grownBy_setCell _ g (j+v.length) _)⟩
   ·have hw:IntKind.u64.wrap (IntKind.u64.wrap (z-c)-b)=18446744073709551615:=by rw[sub_wrap,e2];rfl
    have hD2:1≤D:=by
     rcases(by omega:D=0∨1≤D) with rfl|h1
     ·have:=dv_nonneg hwin;omega
     ·exact h1
    have HE:=Lib.hid (And.intro e1 e3);clear e1 e2 e3 hb0 hb1
    have hs2:=(hset.out 4294967295).of_eq (l':=lo++((([]:List Int)++(out++ [4294967295]).drop 0)++hi)) (by rw[List.drop_of_length_le (by omega),List.append_nil];simp)
    have hs2:=Lib.hid hs2;have hgr2:=grownBy_trans hgr (grownBy_setCell wr g (j+v.length) (.int .u32 4294967295))
    go_wp2
    generalize wr.setCell ⟨g,j+v.length,none⟩ (.int .u32 4294967295)=ws at*
    go_loopw [8,74] (fun c k wr=> ∃(out2:List Int) (cc:Int) (kk:Nat),U32s wr B (.slice (some ⟨g,0,none⟩) L cap) (lo++((out2++(out++ [4294967295]).drop kk)++hi))∧SI out v kk out2 cc∧kk≤v.length∧c= .int .u64 cc∧k= .int .i64 kk∧w.grownBy wr (some g)) (fun _ k _=>v.length-(intOf k).toNat)
    case atStart=>exact⟨[],0,0,hs2.out,SI.start out v,by omega,rfl,rfl,hgr2⟩
    case round=>
     obtain⟨out2,cc,kk,ho,hsi,hkl,rfl,rfl,hgr⟩:=hrel;have hol2:=hsi.2.1;have hc0:=hsi.2.2.1;have hc1:=hsi.2.2.2.1
     by_cases hlt:kk<v.length
     ·have hlw2:kk<(out++ [(4294967295:Int)]).length:=by simp;omega
      obtain⟨c1,c2⟩:=ho.at (j+kk) (by simp;omega)
      rw[get_win hlo hol2 hlw2,List.getElem_append_left (by omega:kk<out.length)] at c1
      obtain⟨g',hg1',hg2',rfl,hc1'⟩:=Hcell'.out kk hlt;have hc2':wr.cell? ⟨g',kk,none⟩=some (.int .u32 v[kk]):=hgr.cell hc1' (fun e=>hne e.symm)
      have hz:=hdg.get kk (by omega)
      have hy:=hv.get kk hlt
      have hnx:=hsi.succ hdg hv (by omega)
      rw[gd_lt hlt] at hnx;have hset:=fun z nq=>((ho.drewN nq).set (j+kk) z).of_eq (set_win hlo hol2 hlw2 z);generalize v[kk]=y at c1 hc2' hy hnx;generalize out[kk]=z at c1 hz hnx
      rw[show z+cc+y=z+y+cc by omega] at hnx
      have hnx:=Lib.hid hnx;have hset:=Lib.hid hset;clear hc1'
      go_wp2
      go_quiet (fail)
      go_wp2
      go_roundw
      case rel=>exact⟨_,_,kk+1,hset.out _ _,hnx.out,by omega,rfl,by go_num,grownBy_trans (grownBy_drewN hgr _) (grownBy_setCell _ g (j+kk) _)⟩
      case measure=>simp[intOf];omega
     ·obtain rfl:kk=v.length:=by omega
      have hlw2:v.length<(out++ [(4294967295:Int)]).length:=by simp;omega
      obtain⟨c1,c2⟩:=ho.at (j+v.length) (by simp;omega)
      have hl2:(out++ [(4294967295:Int)])[v.length]=4294967295:=by rw[List.getElem_append_right (by omega)];simp
      rw[get_win hlo hol2 hlw2,hl2] at c1;have hset:=Lib.hid ((ho.set (j+v.length) 0).of_eq (set_win hlo hol2 hlw2 0));have e4:dv win<D*dv v:=HE.out.1
      have e5:(D-1)*dv v=D*dv v-dv v:=by grind
      have hlo':=HLO.out.1
      obtain⟨rfl,hb2⟩:=SI.back (T:=dv win-D*dv v) hsi hol rfl HE.out.2 (by omega) hv
      have hk:=Lib.hid (TK.ok2 hsi.1 hol2 hD2 hD1 hb2 e4);clear e4 e5 hlo' hb2 hc0 hc1 hl2
      go_wp2
      go_ret
      exact⟨⟨_,_,rfl,hk.out,hset.out.of_eq (by rw[List.drop_of_length_le (by simp;omega),List.append_nil])⟩,grownBy_trans hgr (grownBy_setCell _ g (j+v.length) _)⟩
end Go.Proofs.YtinmmkcjjlconaaGreat
namespace Go.Proofs.YtinmmkcjjlconaaGreat
open Go.RowKit W
open Pl (bval enc bv nb u8 u8_toNat nb_size_le bv_nb extract_list ext_of_data nparse dval alld isD)
def pB(s:ByteArray):Bool:=(nparse s.data.toList).isSome
end Go.Proofs.YtinmmkcjjlconaaGreat
namespace Go.Proofs.YtinmmkcjjlconaaGreat
open Go.RowKit W
open Pl (bval enc bv nb bv_nb nb_size_le nb_size_zero nb_size_mono nb_bv_size bv_lt)
theorem rright_any (s:ByteArray) (w:World) (hs:s.size≤4294967296):
  Calls Tryz.prog 83 #[.string s] w fun e w'=>e= .returned (.bool (rightB s))∧w=w':=by
 go_enter Tryz.func83,Tryz.ntmps83
 by_cases h0:s.size=0
 ·have hr:=Lib.hid (rightB_nil h0)
  go_wp2_with fail
  go_ret
  exact⟨ret_bool hr.out.symm,rfl⟩
 ·have hlt:0<s.size:=by omega
  have hz:((s.size:Int)==0)=false:=by simp only[beq_eq_false_iff_ne,ne_eq];omega
  have hr:=Lib.hid (rightB_get hlt)
  go_wp2_with fail
  go_ret
  exact⟨ret_bool hr.out.symm,rfl⟩
theorem rgcd_any (s t:ByteArray) (w:World) (hs:s.size≤134217728) (ht:t.size≤134217728):
  Calls Tryz.prog 84 #[.string s,.string t] w fun e w'=>e= .returned (.string (nb (Nat.gcd (bv s) (bv t))))∧Below w.heap.size w w':=by
 have hc1:=Lib.hid (fun w=>canon_any s w (by unfold maxLen;omega))
 have hc2:=Lib.hid (fun w=>canon_any t w (by unfold maxLen;omega))
 have l1:=Nat.le_trans (nb_bv_size s) hs;have l2:=Nat.le_trans (nb_bv_size t) ht;generalize bv s=S at*;generalize bv t=T at*
 go_enter Tryz.func84,Tryz.ntmps84
 go_wp2_with fail
 refine(hc1.out _).mono ?_
 rintro e w1 ⟨rfl,rfl⟩
 go_wp2_with fail
 refine(hc2.out _).mono ?_
 rintro e w1 ⟨rfl,rfl⟩
 go_wp2_with fail
 go_loopw [0,1] (fun x y wr=> ∃X Y:Nat,Nat.gcd X Y=Nat.gcd S T∧(nb X).size≤134217728∧(nb Y).size≤134217728∧x= .string (nb X)∧y= .string (nb Y)∧Below w.heap.size w wr) (fun _ y _=>bvV y)
 case atStart=>exact⟨S,T,rfl,l1,l2,rfl,rfl,Below.refl _ _⟩
 case round=>
  obtain⟨X,Y,hg,hx,hy,rfl,rfl,hbel⟩:=hrel;have HG:=Lib.hid hg;clear hg
  rcases Nat.eq_zero_or_pos Y with h0|h0
  ·have hn0:(nb Y).size=0:=nb_size_zero.2 h0
   have HX:=Lib.hid (show X=Nat.gcd S T by rw[←HG.out,h0,Nat.gcd_zero_right])
   clear h0
   go_wp2_with fail
   go_ret
   exact⟨ret_str (by rw[←HX.out]),hbel⟩
  ·have hnp:0<(nb Y).size:=by
    rcases Nat.eq_zero_or_pos (nb Y).size with h|h
    ·have:=bv_lt (nb Y);rw[h,bv_nb] at this;simp at this;omega
    ·exact h
   have HE:=Lib.hid (show Nat.gcd Y (X %Y)=Nat.gcd S T by rw[←HG.out,Nat.gcd_comm,←Nat.gcd_rec,Nat.gcd_comm])
   have HZ:=Lib.hid (Nat.le_trans (nb_size_mono (Nat.le_of_lt (Nat.mod_lt X h0))) hy)
   have HM:=Lib.hid (show bvV (.string (nb (X %Y)))<bvV (.string (nb Y)) by simp only[bvV,bv_nb];exact Nat.mod_lt X h0)
   go_wp2_with fail
   refine(quo_any (nb X) (nb Y) _ hx hy (by rw[bv_nb];exact h0)).mono ?_
   rw[bv_nb,bv_nb];rintro e w4 ⟨rfl,hb4⟩
   go_wp2
   go_roundw
   case rel=>exact⟨Y,X %Y,HE.out,hy,HZ.out,rfl,rfl,hbel.tr hb4⟩
   case measure=>exact HM.out
end Go.Proofs.YtinmmkcjjlconaaGreat
