/- Parts of the proofs about this seat's statements. -/
import Derived.Test.YtinmmkcjjlconaaGreatL1m
set_option maxRecDepth 100000
set_option maxHeartbeats 16000000
namespace Go.Proofs.YtinmmkcjjlconaaGreat
open Go.RowKit W
open Pl (nb bv bv_nb nb_size_zero)
open Lp (S S_succ)
def rawq(q:Rat):Raw:=⟨decide (q.num<0),nb q.num.natAbs,nb q.den⟩
def raws(m:Nat)(F:Nat→Rat):List Raw:=(List.range m).map (fun i=>rawq (F i))
theorem raws_len(m:Nat)(F:Nat→Rat):(raws m F).length=m:=by simp[raws]
theorem raws_get{m:Nat}{F:Nat→Rat}{i:Nat}(h:i<(raws m F).length):(raws m F)[i]=rawq (F i):=by simp[raws]
theorem flat3_cell {l:List Raw} {j:Nat} {u:Value} (h:(flat3 l)[j]? =some u): ∃(i:Nat) (hi:i<l.length) (k:Nat),j=i*3+k∧k<3∧(l[i].cells)[k]? =some u:=by
 have hj:j<(flat3 l).length:=(List.getElem?_eq_some_iff.1 h).1;rw[flat3_len] at hj
 have hi:j/3<l.length:=by omega
 refine⟨j/3,hi,j %3,by omega,by omega,?_⟩
 rw[←flat3_get l (j/3) (j %3) hi (by omega),show j/3*3+j %3=j by omega]
 exact h
theorem run_app_sl {w:World} {B:Nat} {v:Value} {l:List Raw} (ty:TypeId) (h:Rats w B v l) {a:Addr} {m cap:Nat} {F:Nat→Rat} (h2:SlR w (.slice (some a) m cap) m F) (hlen:l.length+m<1000000000) (hB:B≤w.heap.size):
    ∃v' w',(Builtin.append_ #[27,27] ty #[v,.slice (some a) m cap]).run Tryz.prog w= .ok v' w'∧Rats w' B v' (l++raws m F)∧w.grownBy w' v.ownBlock∧(v'.ownBlock=v.ownBlock∨v'.ownBlock=some w.heap.size):=by
  obtain⟨i0,hi,hz0,hz1,hz2⟩:=info_parts info_rat;obtain⟨a',cap',e,h3⟩:=h2
  obtain⟨rfl,rfl⟩:some a=a'∧cap=cap':=by simpa using e
  have hnews : ∀ j u,(flat3 (raws m F))[j]? =some u→w.cell? (a.add j)=some u:=by
    intro j u hu
    obtain⟨i,hil,k,rfl,hk,hc⟩:=flat3_cell hu;rw[raws_len] at hil
    obtain⟨b,e,hr⟩:=h3 (by omega)
    obtain rfl:a=⟨b,0,none⟩:=by simpa using e
    obtain⟨c0,c1,c2⟩:=hr.2 i hil;rw[raws_get] at hc
    have ha:(⟨b,0,none⟩:Addr).add (i*3+k)=⟨b,i*3+k,none⟩:=by unfold Addr.add;split<;>simp_all
    clear hu;rw[ha]
    match k,hk,hc with
    | 0, _, hc => have hc:some (Value.bool (decide ((F i).num<0)))=some u:=hc
                  rw[←hc];exact c0
    | 1, _, hc => have hc:some (Value.string (nb (F i).num.natAbs))=some u:=hc
                  rw[←hc];exact c1
    | 2, _, hc => have hc:some (Value.string (nb (F i).den))=some u:=hc
                  rw[←hc];exact c2
  obtain⟨v',w',hr,e2,e3,_,e5⟩:=run_append_own_at (P:=Tryz.prog) w B 27 ty 33 i0 _ 3 40 Tryz.underlying27 hi hz0 hz1 hz2 rfl (by decide) v _ _ h a m cap (flat3 (raws m F)) (by rw[flat3_len,raws_len]) hnews (flat3_one _) (by unfold maxLen;omega) (by omega) hB
  refine⟨v',w',hr,?_,e3,e5⟩
  unfold Rats;rw[List.length_append,flat3_append,raws_len]
  exact e2
theorem app_sl {w:World} {ops:Array Oper} {rest:List Oper} {o:Oper} {a:Act} {Q:Exit→Act→World→Prop} {s x:Operand} {v:Value} {l:List Raw} {ad:Addr} {m cap:Nat} {F:Nat→Rat}
  (hgd:o.guard=none)
  (ho:o.op= .call {callee:=.builtin .append,args:= #[s,x],argTypes:= #[27,27]})
  (hs:a.eval s=v) (hx:a.eval x= .slice (some ad) m cap) (B:Nat) (hown:Rats w B v l) (h2:SlR w (.slice (some ad) m cap) m F)
  (hlen:l.length+m<1000000000) (hB:B≤w.heap.size)
  (h: ∀v' w',Rats w' B v' (l++raws m F)→w.grownBy w' v.ownBlock→wpList Tryz.prog ops Q rest (a.put o.dst v') w'):wpList Tryz.prog ops Q (o::rest) a w:=by
 refine wpList_plain hgd fun K hK=>?_
 obtain⟨v',w',hr,e1,e2,e3⟩:=run_app_sl o.type hown h2 hlen hB;unfold Oper.wp execOp
 simp only[ho,resolve,invoke,builtin,Sem.run_bind,Sem.run_pure,Result.andThen_ok,List.map_toArray,List.map_cons,List.map_nil,hs,hx,hr]
 exact hK _ _ (h v' w' e1 e2)
theorem Rats.row3 {w:World} {B g:Nat} {v:Value} {l:List Raw} (h:Rats w B v l) (hv:v.ownBlock=some g) {V:Nat→V3} (hV: ∀i (hi:i<l.length),V i=⟨.bool l[i].neg,.string l[i].s,.string l[i].t⟩):Row3 w g l.length V:=by
 rcases h.2 with⟨rfl,hn⟩|⟨g',cap,cur,rfl,hb,hg,hnc,hcm,hcs,htake⟩
 ·simp[Value.ownBlock] at hv
 ·obtain rfl:g'=g:=by simpa [Value.ownBlock] using hv
  refine⟨(Array.getElem?_eq_some_iff.1 hg).1,fun i hi=>?_,fun j=>by rw[World.frozen?,hg];rfl⟩
  have key:=fun j hj=>(World.ownsRow.cellAt h (i*3+j) (by omega)).trans (flat3_get l i j hi hj)
  rw[hV i hi]
  exact⟨key 0 (by decide),key 1 (by decide),key 2 (by decide)⟩
theorem eqnil_some(a:Addr)(m cap:Nat)(W:World):(binOp BinOp.eql 27 (.slice (some a) m cap) (.slice none 0 0)).run Tryz.prog W= .ok (.bool false) W:=by kernel_rfl
theorem eqnil_none(cap:Nat)(W:World):(binOp BinOp.eql 27 (.slice none 0 cap) (.slice none 0 0)).run Tryz.prog W= .ok (.bool true) W:=by kernel_rfl
theorem clone_any (a:Option Addr) (m cap:Nat) (F:Nat→Rat) (w:World) (h:SlR w (.slice a m cap) m F) (hm:m≤100000):
  Calls Tryz.prog 105 #[.slice a m cap] w fun e w'=> ∃a' c',e= .returned (.slice a' m c')∧(0<m→∃g,a'=some ⟨g,0,none⟩∧w.heap.size≤g∧Row3 w' g m (fun i=>q3 (F i)))∧Below w.heap.size w w':=by
 cases a with
 | none=>
  have h0: ¬0<m:=fun h0=>by
   obtain⟨a',c',e,h1⟩:=h;obtain⟨b,e2,_⟩:=h1 h0;rw[e2] at e
   simp at e
  obtain rfl:m=0:=by omega
  go_enter Tryz.func105,Tryz.ntmps105
  have hq:=eqnil_none cap
  go_wp2_with fail
  go_ret
  exact⟨none,_,rfl,fun h=>absurd h (by decide),Below.refl _ _⟩
 | some a=>
  go_enter Tryz.func105,Tryz.ntmps105
  have hq:=eqnil_some a m cap
  have hE:Rats (w.alloc (.cells #[] 33)) w.heap.size (.slice (some ⟨w.heap.size,0,none⟩) 0 0) []:=Rats.lit w (Nat.le_refl _) [] (by simp)
  have hsl:SlR (w.alloc (.cells #[] 33)) (.slice (some a) m cap) m F:=h.below ((Below.refl _ _).alloc (Nat.le_refl _) _)
  have hlen:([]:List Raw).length+m<1000000000:=by simp only[List.length_nil];omega
  have hbs:w.heap.size≤(w.alloc (.cells #[] 33)).heap.size:=by simp
  have hb0:=(Below.refl w.heap.size w).alloc (Nat.le_refl _) (.cells #[] 33)
  go_wp2_with (at_builtin;refine app_sl (by rfl) (by rfl) (by rfl) (by rfl) w.heap.size hE hsl hlen hbs ?_;intro v1 w1 h1 hg1)
  go_ret
  rw[List.nil_append] at h1;obtain⟨a',c',e⟩:=h1.form;rw[raws_len] at e;subst e
  refine⟨a',c',rfl,fun h0=>?_,hb0.grown hg1 hbs (fun k hk=>by simp[Value.ownBlock] at hk;omega)⟩
  rcases h1.2 with⟨e,hn⟩|⟨g',cap',cur,e,hb,hg,hrest⟩
  ·rw[raws_len] at hn;omega
  ·obtain⟨rfl, -⟩:a'=some ⟨g',0,none⟩∧c'=cap':=by simp only[Value.slice.injEq] at e;exact⟨e.1,e.2.2⟩
   refine⟨g',rfl,hb,?_⟩
   have:=h1.row3 (g:=g') rfl (V:=fun i=>q3 (F i)) (fun i hi=>by rw[raws_get];rfl)
   rwa [raws_len] at this
theorem start_any (m n:Nat) (hm:m≤100) (hn:n≤5000) (A:Nat→Nat→Rat) (B C:Nat→Rat) (pa pb pc:Value) (w:World) (hA:MatR w pa m n A) (hB:SlR w pb m B) (hC:SlR w pc n C):
  Calls Tryz.prog 73 #[.agg #[pa,pb,pc]] w fun e w'=> ∃D:TD,TDo D∧D.w0=w∧D.m=m∧D.n=n∧D.A=A∧D.B=B∧D.C=C∧e= .returned (.pointer (some ⟨D.bt,0,none⟩))∧Below w.heap.size w w'∧TM D w' (Lp.tab0 m n A B) (fun _=>false):=by
 obtain⟨a0,c0,rfl⟩: ∃a c,pa= .slice a m c:=by obtain⟨a,c,e,_⟩:=hA;exact⟨a,c,e⟩
 obtain⟨a1,c1,rfl⟩: ∃a c,pb= .slice a m c:=by obtain⟨a,c,e,_⟩:=hB;exact⟨a,c,e⟩
 obtain⟨a2,c2,rfl⟩: ∃a c,pc= .slice a n c:=by obtain⟨a,c,e,_⟩:=hC;exact⟨a,c,e⟩
 have HA:=Lib.hid hA;have HB:=Lib.hid hB;have HC:=Lib.hid hC
 have HOf:Hid (∀W,Calls Tryz.prog 67 #[.int .i64 0] W fun e w'=>e= .returned (rv (0:Rat))∧Below W.heap.size W w'):=Lib.hid (fun W=>aof_any 0 W (by decide) (by decide))
 have HOg:Hid (∀W,Calls Tryz.prog 67 #[.int .i64 1] W fun e w'=>e= .returned (rv (1:Rat))∧Below W.heap.size W w'):=Lib.hid (fun W=>aof_any 1 W (by decide) (by decide))
 have HCl:=Lib.hid (fun W (hb:Below w.heap.size w W)=>clone_any a1 m c1 B W (hB.below hb) (by omega))
 clear hA hB hC;obtain⟨z,hz⟩: ∃z:Rat,z=0:=⟨_,rfl⟩;obtain⟨u,hu⟩: ∃u:Rat,u=1:=⟨_,rfl⟩;rw[←hz] at HOf;rw[←hu] at HOg
 simp only[rv] at HOf HOg
 have HZ:=Lib.hid hz;have HU:=Lib.hid hu;clear hz hu;obtain⟨N,hN⟩: ∃N,N=n+m+1:=⟨_,rfl⟩
 have hN2:N≤100000:=by omega
 have hw1:IntKind.i64.wrap ((n:Int)+(m:Int))=(n:Int)+(m:Int):=by rw[IntKind.wrap_i64];omega
 have hw2:IntKind.i64.wrap ((n:Int)+(m:Int)+1)=(N:Int):=by rw[IntKind.wrap_i64];omega
 have HN:=Lib.hid hN;clear hN
 go_enter Tryz.func73,Tryz.ntmps73
 have⟨bP,ag⟩:=opn1 w [.slice a0 m c0,.slice a1 m c1,.slice a2 n c2] 29
 go_upto_region 1 with fail
 generalize w.alloc (.cells #[.slice a0 m c0,.slice a1 m c1,.slice a2 n c2] 29)=W0 at*;obtain⟨gP,hgP⟩: ∃g,g=w.heap.size:=⟨_,rfl⟩;rw[←hgP] at bP
 simp only[←hgP]
 have kgP:w.heap.size≤gP:=by omega
 clear hgP;replace ag:=ag.drew;replace bP:=bP.drew
 refine wp_schH (S:=(fun w'=>w'.cell? ⟨gP,0,none⟩=some (.slice a0 m c0)∧w'.cell? ⟨gP,1,none⟩=some (.slice a1 m c1)∧w'.cell? ⟨gP,2,none⟩=some (.slice a2 n c2))) (ps 0 7 (.c 7 (.c 8 (.p 9 (.c 10 (.p 11 .e)))))) [1] fun A WD hA aq=>?_
 simp only[←aq.out] at ag bP
 clear aq
 refine⟨?_,fun ap=>?_⟩
 ·try dsimp only
  with_reducible exact qz3 bP
 repeat(refine isP ?_;refine tkO ?_)
 refine caO (HOf.out _) fun e wZ hz=>?_
 obtain⟨rfl,am⟩:=hz;replace ag:=ag.tr am;replace bP:=bP.below am;clear am
 refine⟨_,rfl,?_,?_⟩
 ·try dsimp only
  with_reducible exact qz3 bP
 refine caO (HOg.out _) fun e wZ hz=>?_
 obtain⟨rfl,am⟩:=hz;replace ag:=ag.tr am;replace bP:=bP.below am;clear am
 refine⟨_,rfl,?_,?_⟩
 ·try dsimp only
  with_reducible exact qz3 bP
 repeat(refine isP ?_;refine tkO ?_)
 refine acO fun aa KK hF hK=>?_
 dsimp only[Fa] at hF
 have kbt:=ag.size;replace ag:=ag.alloc ag.size (.cells #[.slice a0 m c0,.slice a1 m c1,.slice a2 n c2,.int .i64 (m:Int),.int .i64 (n:Int),.slice none 0 0,.slice none 0 0,.slice none 0 0,.slice none 0 0,.slice none 0 0,.bool (decide (z.num<0)),.string (nb z.num.natAbs),.string (nb z.den),.bool (decide (u.num<0)),.string (nb u.num.natAbs),.string (nb u.den)] 97)
 have dgP:=bP.lt;replace bP:=bP.alloc (.cells #[.slice a0 m c0,.slice a1 m c1,.slice a2 n c2,.int .i64 (m:Int),.int .i64 (n:Int),.slice none 0 0,.slice none 0 0,.slice none 0 0,.slice none 0 0,.slice none 0 0,.bool (decide (z.num<0)),.string (nb z.num.natAbs),.string (nb z.den),.bool (decide (u.num<0)),.string (nb u.num.natAbs),.string (nb u.den)] 97);have bS:Rx (wZ.alloc (.cells #[.slice a0 m c0,.slice a1 m c1,.slice a2 n c2,.int .i64 (m:Int),.int .i64 (n:Int),.slice none 0 0,.slice none 0 0,.slice none 0 0,.slice none 0 0,.slice none 0 0,.bool (decide (z.num<0)),.string (nb z.num.natAbs),.string (nb z.den),.bool (decide (u.num<0)),.string (nb u.num.natAbs),.string (nb u.den)] 97)) wZ.heap.size [.slice a0 m c0,.slice a1 m c1,.slice a2 n c2,.int .i64 (m:Int),.int .i64 (n:Int),.slice none 0 0,.slice none 0 0,.slice none 0 0,.slice none 0 0,.slice none 0 0,.bool (decide (z.num<0)),.string (nb z.num.natAbs),.string (nb z.den),.bool (decide (u.num<0)),.string (nb u.num.natAbs),.string (nb u.den)]:=Rx.new wZ _ rfl [.slice a0 m c0,.slice a1 m c1,.slice a2 n c2,.int .i64 (m:Int),.int .i64 (n:Int),.slice none 0 0,.slice none 0 0,.slice none 0 0,.slice none 0 0,.slice none 0 0,.bool (decide (z.num<0)),.string (nb z.num.natAbs),.string (nb z.den),.bool (decide (u.num<0)),.string (nb u.num.natAbs),.string (nb u.den)] 97
 go_simp
 generalize wZ.heap.size=bt at*;generalize wZ.alloc (.cells #[.slice a0 m c0,.slice a1 m c1,.slice a2 n c2,.int .i64 (m:Int),.int .i64 (n:Int),.slice none 0 0,.slice none 0 0,.slice none 0 0,.slice none 0 0,.slice none 0 0,.bool (decide (z.num<0)),.string (nb z.num.natAbs),.string (nb z.den),.bool (decide (u.num<0)),.string (nb u.num.natAbs),.string (nb u.den)] 97)=Wbt at*
 have ngPbt:gP≠bt:=by omega
 clear dgP
 (first|refine hK.out _ _ ?_ (fun ap=>?_)|(go_wp2_with fail;refine hK.out _ _ ?_ (fun ap=>?_)))
 ·try dsimp only
  with_reducible exact qz3 bP
 clear hK KK hF aa
 repeat(refine isP ?_;refine tkO ?_)
 refine enO hA ?_
 clear hA
 go_wp2_with fail
 replace ag:=ag.drew;replace bP:=bP.drew;replace bS:=bS.drew
 refine wp_schH (S:=(fun w'=>w'.cell? ⟨bt,3,none⟩=some (.int .i64 (m:Int))∧w'.cell? ⟨bt,4,none⟩=some (.int .i64 (n:Int)))) (ps 0 11 .e) [3] fun A WD hA aq=>?_
 simp only[←aq.out] at ag bP bS
 clear aq
 refine⟨?_,fun ap=>?_⟩
 ·try dsimp only
  with_reducible exact⟨bS.at 3 rfl,bS.at 4 rfl⟩
 repeat(refine isP ?_;refine tkO ?_)
 refine enO hA ?_
 clear hA
 go_wp2_with fail
 have HMk:=Lib.hid (fun W=>run_mkB (N:Int) N rfl hN2 W)
 go_cut [32,34] (fun s1 s2 wx=> ∃gk gr,s1= .slice (some ⟨gk,0,none⟩) N N∧s2= .slice (some ⟨gr,0,none⟩) N N∧w.heap.size≤gk∧w.heap.size≤gr∧bt≠gk∧bt≠gr∧gk≠gr∧Rx wx gP [.slice a0 m c0,.slice a1 m c1,.slice a2 n c2]∧Rx wx bt [.slice a0 m c0,.slice a1 m c1,.slice a2 n c2,.int .i64 (m:Int),.int .i64 (n:Int),.slice none 0 0,.slice (some ⟨gk,0,none⟩) N N,.slice (some ⟨gr,0,none⟩) N N,.slice none 0 0,.slice none 0 0,.bool (decide (z.num<0)),.string (nb z.num.natAbs),.string (nb z.den),.bool (decide (u.num<0)),.string (nb u.num.natAbs),.string (nb u.den)]∧RowC wx gk N (fun _=>.bool false)∧RowC wx gr N (fun _=>.bool false)∧Below w.heap.size w wx)
 case first=>
  replace ag:=ag.drew;replace bP:=bP.drew;replace bS:=bS.drew
  refine wp_schH (S:=(fun _=>True)) (ps 0 3 (.p 4 (.b (.c 3 (ps 6 2 (.b (.c 5 (.c 8 (ps 9 2 (.c 11 .e)))) (.c 8 (.c 5 (ps 9 2 (.c 11 .e))))))) (.c 5 (.c 3 (ps 6 2 (.c 8 (ps 9 2 (.c 11 .e))))))))) [3,4] fun A WD hA aq=>?_
  simp only[←aq.out] at ag bP bS
  clear aq
  refine⟨?_,fun ap=>?_⟩
  ·try dsimp only
   all_goals exact trivial
  repeat(refine isP ?_;refine tkO ?_)
  refine⟨?_,?_⟩
  ·refine acO fun aa KK hF hK=>?_
   dsimp only[Fa] at hF
   have hmk1:=HMk.out WD;have kgk:=ag.size;replace ag:=ag.alloc ag.size (.cells (zrb N) 4);have dgP:=bP.lt;replace bP:=bP.alloc (.cells (zrb N) 4);have dbt:=bS.lt;replace bS:=bS.alloc (.cells (zrb N) 4);have hk:=RowC.made WD N
   go_simp
   clear hmk1;generalize WD.heap.size=gk at*;generalize WD.alloc (.cells (zrb N) 4)=Wgk at*
   have ngPgk:gP≠gk:=by omega
   have nbtgk:bt≠gk:=by omega
   clear dgP dbt
   (first|refine hK.out _ _ ?_ (fun ap=>?_)|(go_wp2_with fail;refine hK.out _ _ ?_ (fun ap=>?_)))
   ·try dsimp only
    all_goals exact trivial
   clear hK KK hF aa
   repeat(refine isP ?_;refine tkO ?_)
   refine⟨?_,?_⟩
   ·refine acO fun aa KK hF hK=>?_
    dsimp only[Fa] at hF
    have hmk1:=HMk.out Wgk;have kgr:=ag.size;replace ag:=ag.alloc ag.size (.cells (zrb N) 4);have dgP:=bP.lt;replace bP:=bP.alloc (.cells (zrb N) 4);have dbt:=bS.lt;replace bS:=bS.alloc (.cells (zrb N) 4);have dhk:=hk.lt;replace hk:=hk.alloc (.cells (zrb N) 4);have hr:=RowC.made Wgk N
    go_simp
    clear hmk1;generalize Wgk.heap.size=gr at*;generalize Wgk.alloc (.cells (zrb N) 4)=Wgr at*
    have ngPgr:gP≠gr:=by omega
    have nbtgr:bt≠gr:=by omega
    have ngkgr:gk≠gr:=by omega
    clear dgP dbt dhk
    (first|refine hK.out _ _ ?_ (fun ap=>?_)|(go_wp2_with fail;refine hK.out _ _ ?_ (fun ap=>?_)))
    ·try dsimp only
     all_goals exact trivial
    clear hK KK hF aa
    refine acO fun aa KK hF hK=>?_
    dsimp only[Fa] at hF
    have cbt6:=bS.at 6 rfl;have fbt6:=bS.fr 6 rfl
    go_simp
    clear cbt6 fbt6;replace ag:=ag.setCell (p:=⟨bt,6,none⟩) kbt (.slice (some ⟨gk,0,none⟩) N N);replace bP:=bP.other (p:=⟨bt,6,none⟩) (Ne.symm ngPbt) (.slice (some ⟨gk,0,none⟩) N N);replace hk:=hk.other (p:=⟨bt,6,none⟩) nbtgk (.slice (some ⟨gk,0,none⟩) N N);replace hr:=hr.other (p:=⟨bt,6,none⟩) nbtgr (.slice (some ⟨gk,0,none⟩) N N)
    replace bS:=bS.put 6 (.slice (some ⟨gk,0,none⟩) N N) (by simp)
    simp only[List.set] at bS
    generalize Wgr.setCell ⟨bt,6,none⟩ (.slice (some ⟨gk,0,none⟩) N N)=WS at*
    (first|refine hK.out undef _ ?_ (fun ap=>?_)|(go_wp2_with fail;refine hK.out undef _ ?_ (fun ap=>?_)))
    ·try dsimp only
     all_goals exact trivial
    clear hK KK hF aa
    repeat(refine isP ?_;refine tkO ?_)
    refine acO fun aa KK hF hK=>?_
    dsimp only[Fa] at hF
    have cbt7:=bS.at 7 rfl;have fbt7:=bS.fr 7 rfl
    go_simp
    clear cbt7 fbt7;replace ag:=ag.setCell (p:=⟨bt,7,none⟩) kbt (.slice (some ⟨gr,0,none⟩) N N);replace bP:=bP.other (p:=⟨bt,7,none⟩) (Ne.symm ngPbt) (.slice (some ⟨gr,0,none⟩) N N);replace hk:=hk.other (p:=⟨bt,7,none⟩) nbtgk (.slice (some ⟨gr,0,none⟩) N N);replace hr:=hr.other (p:=⟨bt,7,none⟩) nbtgr (.slice (some ⟨gr,0,none⟩) N N)
    replace bS:=bS.put 7 (.slice (some ⟨gr,0,none⟩) N N) (by simp)
    simp only[List.set] at bS
    generalize WS.setCell ⟨bt,7,none⟩ (.slice (some ⟨gr,0,none⟩) N N)=WS at*
    (first|refine hK.out undef _ ?_ (fun ap=>?_)|(go_wp2_with fail;refine hK.out undef _ ?_ (fun ap=>?_)))
    ·try dsimp only
     all_goals exact trivial
    clear hK KK hF aa
    refine enO hA ?_
    clear hA
    go_wp2_with fail
    go_meet
    exact⟨gk,gr,rfl,rfl,kgk,kgr,nbtgk,nbtgr,ngkgr,bP,bS,hk,hr,ag⟩
   refine acO fun aa KK hF hK=>?_
   dsimp only[Fa] at hF
   have cbt6:=bS.at 6 rfl;have fbt6:=bS.fr 6 rfl
   go_simp
   clear cbt6 fbt6;replace ag:=ag.setCell (p:=⟨bt,6,none⟩) kbt (.slice (some ⟨gk,0,none⟩) N N);replace bP:=bP.other (p:=⟨bt,6,none⟩) (Ne.symm ngPbt) (.slice (some ⟨gk,0,none⟩) N N);replace hk:=hk.other (p:=⟨bt,6,none⟩) nbtgk (.slice (some ⟨gk,0,none⟩) N N)
   replace bS:=bS.put 6 (.slice (some ⟨gk,0,none⟩) N N) (by simp)
   simp only[List.set] at bS
   generalize Wgk.setCell ⟨bt,6,none⟩ (.slice (some ⟨gk,0,none⟩) N N)=WS at*
   (first|refine hK.out undef _ ?_ (fun ap=>?_)|(go_wp2_with fail;refine hK.out undef _ ?_ (fun ap=>?_)))
   ·try dsimp only
    all_goals exact trivial
   clear hK KK hF aa
   refine acO fun aa KK hF hK=>?_
   dsimp only[Fa] at hF
   have hmk1:=HMk.out WS;have kgr:=ag.size;replace ag:=ag.alloc ag.size (.cells (zrb N) 4);have dgP:=bP.lt;replace bP:=bP.alloc (.cells (zrb N) 4);have dbt:=bS.lt;replace bS:=bS.alloc (.cells (zrb N) 4);have dhk:=hk.lt;replace hk:=hk.alloc (.cells (zrb N) 4);have hr:=RowC.made WS N
   go_simp
   clear hmk1;generalize WS.heap.size=gr at*;generalize WS.alloc (.cells (zrb N) 4)=Wgr at*
   have ngPgr:gP≠gr:=by omega
   have nbtgr:bt≠gr:=by omega
   have ngkgr:gk≠gr:=by omega
   clear dgP dbt dhk
   (first|refine hK.out _ _ ?_ (fun ap=>?_)|(go_wp2_with fail;refine hK.out _ _ ?_ (fun ap=>?_)))
   ·try dsimp only
    all_goals exact trivial
   clear hK KK hF aa
   repeat(refine isP ?_;refine tkO ?_)
   refine acO fun aa KK hF hK=>?_
   dsimp only[Fa] at hF
   have cbt7:=bS.at 7 rfl;have fbt7:=bS.fr 7 rfl
   go_simp
   clear cbt7 fbt7;replace ag:=ag.setCell (p:=⟨bt,7,none⟩) kbt (.slice (some ⟨gr,0,none⟩) N N);replace bP:=bP.other (p:=⟨bt,7,none⟩) (Ne.symm ngPbt) (.slice (some ⟨gr,0,none⟩) N N);replace hk:=hk.other (p:=⟨bt,7,none⟩) nbtgk (.slice (some ⟨gr,0,none⟩) N N);replace hr:=hr.other (p:=⟨bt,7,none⟩) nbtgr (.slice (some ⟨gr,0,none⟩) N N)
   replace bS:=bS.put 7 (.slice (some ⟨gr,0,none⟩) N N) (by simp)
   simp only[List.set] at bS
   generalize Wgr.setCell ⟨bt,7,none⟩ (.slice (some ⟨gr,0,none⟩) N N)=WS at*
   (first|refine hK.out undef _ ?_ (fun ap=>?_)|(go_wp2_with fail;refine hK.out undef _ ?_ (fun ap=>?_)))
   ·try dsimp only
    all_goals exact trivial
   clear hK KK hF aa
   refine enO hA ?_
   clear hA
   go_wp2_with fail
   go_meet
   exact⟨gk,gr,rfl,rfl,kgk,kgr,nbtgk,nbtgr,ngkgr,bP,bS,hk,hr,ag⟩
  refine acO fun aa KK hF hK=>?_
  dsimp only[Fa] at hF
  have hmk1:=HMk.out WD;have kgr:=ag.size;replace ag:=ag.alloc ag.size (.cells (zrb N) 4);have dgP:=bP.lt;replace bP:=bP.alloc (.cells (zrb N) 4);have dbt:=bS.lt;replace bS:=bS.alloc (.cells (zrb N) 4);have hr:=RowC.made WD N
  go_simp
  clear hmk1;generalize WD.heap.size=gr at*;generalize WD.alloc (.cells (zrb N) 4)=Wgr at*
  have ngPgr:gP≠gr:=by omega
  have nbtgr:bt≠gr:=by omega
  clear dgP dbt
  (first|refine hK.out _ _ ?_ (fun ap=>?_)|(go_wp2_with fail;refine hK.out _ _ ?_ (fun ap=>?_)))
  ·try dsimp only
   all_goals exact trivial
  clear hK KK hF aa
  refine acO fun aa KK hF hK=>?_
  dsimp only[Fa] at hF
  have hmk1:=HMk.out Wgr;have kgk:=ag.size;replace ag:=ag.alloc ag.size (.cells (zrb N) 4);have dgP:=bP.lt;replace bP:=bP.alloc (.cells (zrb N) 4);have dbt:=bS.lt;replace bS:=bS.alloc (.cells (zrb N) 4);have dhr:=hr.lt;replace hr:=hr.alloc (.cells (zrb N) 4);have hk:=RowC.made Wgr N
  go_simp
  clear hmk1;generalize Wgr.heap.size=gk at*;generalize Wgr.alloc (.cells (zrb N) 4)=Wgk at*
  have ngPgk:gP≠gk:=by omega
  have nbtgk:bt≠gk:=by omega
  have ngkgr:gk≠gr:=by omega
  clear dgP dbt dhr
  (first|refine hK.out _ _ ?_ (fun ap=>?_)|(go_wp2_with fail;refine hK.out _ _ ?_ (fun ap=>?_)))
  ·try dsimp only
   all_goals exact trivial
  clear hK KK hF aa
  repeat(refine isP ?_;refine tkO ?_)
  refine acO fun aa KK hF hK=>?_
  dsimp only[Fa] at hF
  have cbt6:=bS.at 6 rfl;have fbt6:=bS.fr 6 rfl
  go_simp
  clear cbt6 fbt6;replace ag:=ag.setCell (p:=⟨bt,6,none⟩) kbt (.slice (some ⟨gk,0,none⟩) N N);replace bP:=bP.other (p:=⟨bt,6,none⟩) (Ne.symm ngPbt) (.slice (some ⟨gk,0,none⟩) N N);replace hk:=hk.other (p:=⟨bt,6,none⟩) nbtgk (.slice (some ⟨gk,0,none⟩) N N);replace hr:=hr.other (p:=⟨bt,6,none⟩) nbtgr (.slice (some ⟨gk,0,none⟩) N N)
  replace bS:=bS.put 6 (.slice (some ⟨gk,0,none⟩) N N) (by simp)
  simp only[List.set] at bS
  generalize Wgk.setCell ⟨bt,6,none⟩ (.slice (some ⟨gk,0,none⟩) N N)=WS at*
  (first|refine hK.out undef _ ?_ (fun ap=>?_)|(go_wp2_with fail;refine hK.out undef _ ?_ (fun ap=>?_)))
  ·try dsimp only
   all_goals exact trivial
  clear hK KK hF aa
  repeat(refine isP ?_;refine tkO ?_)
  refine acO fun aa KK hF hK=>?_
  dsimp only[Fa] at hF
  have cbt7:=bS.at 7 rfl;have fbt7:=bS.fr 7 rfl
  go_simp
  clear cbt7 fbt7;replace ag:=ag.setCell (p:=⟨bt,7,none⟩) kbt (.slice (some ⟨gr,0,none⟩) N N);replace bP:=bP.other (p:=⟨bt,7,none⟩) (Ne.symm ngPbt) (.slice (some ⟨gr,0,none⟩) N N);replace hk:=hk.other (p:=⟨bt,7,none⟩) nbtgk (.slice (some ⟨gr,0,none⟩) N N);replace hr:=hr.other (p:=⟨bt,7,none⟩) nbtgr (.slice (some ⟨gr,0,none⟩) N N)
  replace bS:=bS.put 7 (.slice (some ⟨gr,0,none⟩) N N) (by simp)
  simp only[List.set] at bS
  generalize WS.setCell ⟨bt,7,none⟩ (.slice (some ⟨gr,0,none⟩) N N)=WS at*
  (first|refine hK.out undef _ ?_ (fun ap=>?_)|(go_wp2_with fail;refine hK.out undef _ ?_ (fun ap=>?_)))
  ·try dsimp only
   all_goals exact trivial
  clear hK KK hF aa
  refine enO hA ?_
  clear hA
  go_wp2_with fail
  go_meet
  exact⟨gk,gr,rfl,rfl,kgk,kgr,nbtgk,nbtgr,ngkgr,bP,bS,hk,hr,ag⟩
 case rest=>
  clear bP bS ag HMk;obtain⟨gk,gr,rfl,rfl,kgk,kgr,nbtgk,nbtgr,ngkgr,bP,bS,hk,hr,ag⟩:=hcut;have⟨cP0,fP0,cP1,fP1,cP2,fP2⟩:=bP.all3
  go_wp2_with fail
  clear cP0 fP0 cP1 fP1 cP2 fP2
  with_reducible refine(HCl.out _ ag).mono ?_
  rintro e wZ ⟨av,cv,rfl,hV,am⟩;have hsz:=ag.size
  obtain⟨gv,hgv,hV⟩: ∃gv,(0<m→av=some ⟨gv,0,none⟩)∧(0<m→wc.heap.size≤gv∧Row3 wZ gv m (fun i=>q3 (B i))):=by
   by_cases h0:0<m
   ·obtain⟨g,h1,h2,h3⟩:=hV h0
    exact⟨g,fun _=>h1,fun _=>⟨h2,h3⟩⟩
   ·exact⟨0,fun h=>absurd h h0,fun h=>absurd h h0⟩
  have hS:=SS.init (gq:=fun _=>0) (rw_:=fun _ _=>z3) (ag.tr am) (bS.below am) (hk.below am) (hr.below am) (fun h0=>(hV h0).2) nbtgk nbtgr ngkgr (fun h0=>by
   have h1:=(hV h0).1;have h2:=bS.lt;have h3:=hk.lt;have h4:=hr.lt
   omega) kbt kgk kgr (fun h0=>Nat.le_trans hsz (hV h0).1)
  clear bP bS hk hr ag am hV hsz HCl nbtgk nbtgr ngkgr kbt kgk kgr;have c3:=hS.fix.at 3 rfl;have c9:=hS.fix.at 9 rfl;have f9:=hS.fix.fr 9 rfl
  go_wp2_with fail
  clear c3 c9 f9
  replace hS:=hS.cell 9 (.slice av m cv) (by simp)
  simp only[List.set] at hS
  generalize wZ.setCell ⟨bt,9,none⟩ (.slice av m cv)=WL at*
  go_loopw [49] (fun s wr=> ∃i:Nat,i≤m∧s= .int .i64 i∧∃vb vi gq lab,SS w m N bt gk gr gv [.slice a0 m c0,.slice a1 m c1,.slice a2 n c2,.int .i64 (m:Int),.int .i64 (n:Int),vb,.slice (some ⟨gk,0,none⟩) N N,.slice (some ⟨gr,0,none⟩) N N,vi,.slice av m cv,.bool (decide (z.num<0)),.string (nb z.num.natAbs),.string (nb z.den),.bool (decide (u.num<0)),.string (nb u.num.natAbs),.string (nb u.den)] vb (lbF n i) vi (liF m i gq) (bsF n i) (i) gq (rwF) (fun i=>q3 (B i)) lab wr) (fun s _=>m-(intOf s).toNat)
  case atStart=>exact⟨0,by omega,rfl,.slice none 0 0,.slice none 0 0,fun _=>0,_,((hS.congrB (fun j _=>by unfold bsF;congr 1;exact(decide_eq_false (by omega)).symm)).congrR (fun k x hk _=>by omega))⟩
  case round=>
   clear hS;obtain⟨i,hi,rfl,vb,vi,gq,lab,hS⟩:=hrel
   by_cases hlt:i<m
   ·have hi0:(0:Int)≤(i:Int):=by omega
    have hi1:(i:Int)<(m:Int):=by omega
    have hni:n+i<N:=by have:=HN.out;omega
    have hk0:(0:Int)≤(n:Int)+(i:Int):=by omega
    have hk1:(n:Int)+(i:Int)<(N:Int):=by omega
    have hk2:((n:Int)+(i:Int)).toNat=n+i:=by omega
    have hw3:IntKind.i64.wrap ((n:Int)+(i:Int))=(n:Int)+(i:Int):=by rw[IntKind.wrap_i64];omega
    go_upto_region 8 with fail
    have ag:=Below.refl wr.heap.size wr;replace ag:=ag.drew;replace hS:=hS.drew
    refine wp_schH (S:=(fun w'=>w'.cell? ⟨bt,4,none⟩=some (.int .i64 (n:Int)))) (.p 0 (.p 1 (.p 2 (.p 3 (.p 5 (.p 6 (.p 7 (.p 8 (.p 9 (.p 10 (.b (.c 4 (.c 11 (.c 12 (.p 13 (.p 14 (.c 15 .e)))))) (.c 11 (.c 4 (.c 12 (.p 13 (.p 14 (.c 15 .e))))))))))))))))) [3,5] fun A WD hA aq=>?_
    simp only[←aq.out] at ag hS
    clear aq
    refine⟨?_,fun ap=>?_⟩
    ·try dsimp only
     with_reducible exact hS.fix.at 4 rfl
    repeat' first
     |((with_reducible refine isP ?_);refine tkO ?_)
     |(with_reducible refine brA ?_ ?_)
     | (
      with_reducible refine isA (i:=4) ?_
      refine acO fun aa KK hF hK=>?_
      dsimp only[Fa] at hF
      have c5:=hS.fix.at 5 rfl
      go_simp
      clear c5
      (first|refine hK.out _ _ ?_ (fun ap=>?_)|(go_wp2_with fail;refine hK.out _ _ ?_ (fun ap=>?_)))
      ·try dsimp only
       with_reducible exact hS.fix.at 4 rfl
      clear hK KK hF aa)
     | (
      with_reducible refine isA (i:=11) ?_
      refine acO fun aa KK hF hK=>?_
      dsimp only[Fa] at hF
      have hL:Vals 3 (WD.alloc (.cells #[.int .i64 ((n:Int)+(i:Int))] 3)) 0 (.slice (some ⟨WD.heap.size,0,none⟩) 1 1) [.int .i64 ((n:Int)+(i:Int))]:=Vals.lit WD (Nat.zero_le _) _ [.int .i64 ((n:Int)+(i:Int))] (by simp)
      replace hS:=hS.alloc (.cells #[.int .i64 ((n:Int)+(i:Int))] 3)
      go_simp
      generalize WD.heap.size=gL at*;generalize WD.alloc (.cells #[.int .i64 ((n:Int)+(i:Int))] 3)=WA at*
      (first|refine hK.out _ _ ?_ (fun ap=>?_)|(go_wp2_with fail;refine hK.out _ _ ?_ (fun ap=>?_)))
      ·try dsimp only
       with_reducible exact hS.fix.at 4 rfl
      clear hK KK hF aa)
     | (
      with_reducible refine isA (i:=12) ?_
      refine acO fun aa KK hF hK=>?_
      dsimp only[Fa] at hF
      refine ifw (by rfl) (step_vals (ops:= #[]) (E:=True) Tryz.underlying81 info_int rfl (by decide) (by rfl) (by rfl) (by apply evF;first|exact hF.1|exact hF.2.1|exact hF.2.2.1) (by apply evF;first|exact hF.1|exact hF.2.1|exact hF.2.2.1) w.heap.size hS.bas hL (fun u hu=>by simp at hu;subst hu;rfl) (by rw[lbF_len];simp;omega) hS.old.size ?_)
      intro vb2 w4 hB4 hg4 ho4
      rw[←lbF_succ] at hB4
      obtain⟨ab,cb,rfl⟩: ∃a c,vb2= .slice a (i+1) c:=by
       obtain⟨a,c,e,_⟩:=hB4.form;rw[lbF_len] at e
       exact⟨a,c,e⟩
      obtain⟨lab2,hS⟩:=hS.appB hg4 hB4 ho4;clear hL hg4 ho4 hB4
      (first|refine hK.out _ _ ?_ (fun ap=>?_)|(go_wp2_with fail;refine hK.out _ _ ?_ (fun ap=>?_)))
      ·try dsimp only
       with_reducible exact hS.fix.at 4 rfl
      clear hK KK hF aa)
     | (
      with_reducible refine isA (i:=15) ?_
      refine acO fun aa KK hF hK=>?_
      dsimp only[Fa] at hF
      have c5:=hS.fix.at 5 rfl;have f5:=hS.fix.fr 5 rfl
      go_simp
      clear c5 f5
      replace hS:=hS.cell 5 (.slice ab (i+1) cb) (by simp)
      simp only[List.set] at hS
      generalize w4.setCell ⟨bt,5,none⟩ (.slice ab (i+1) cb)=WS at*
      (first|refine hK.out undef _ ?_ (fun ap=>?_)|(go_wp2_with fail;refine hK.out undef _ ?_ (fun ap=>?_)))
      ·try dsimp only
       with_reducible exact hS.fix.at 4 rfl
      clear hK KK hF aa)
    all_goals(
     refine enO hA ?_
     clear hA;clear ag
     go_upto_region 9 with fail
     have ag:=Below.refl WS.heap.size WS;replace ag:=ag.drew;replace hS:=hS.drew
     refine wp_schH (S:=(fun w'=>w'.cell? ⟨bt,6,none⟩=some (.slice (some ⟨gk,0,none⟩) N N)∧w'.cell? ⟨bt,4,none⟩=some (.int .i64 (n:Int)))) (ps 0 11 (.c 11 .e)) [3,5] fun A WD hA aq=>?_
     simp only[←aq.out] at ag hS
     clear aq
     refine⟨?_,fun ap=>?_⟩
     ·try dsimp only
      with_reducible exact⟨hS.fix.at 6 rfl,hS.fix.at 4 rfl⟩
     repeat(refine isP ?_;refine tkO ?_)
     refine acO fun aa KK hF hK=>?_
     dsimp only[Fa] at hF
     have c5:=hS.basic.2 (n+i) hni;have f5:=hS.basic.3 (n+i)
     go_simp
     clear c5 f5;replace hS:=(hS.setb (n+i) (.bool true) hni).congrB (bsF_succ (N:=N));generalize WD.setCell ⟨gk,n+i,none⟩ (.bool true)=WT at*
     (first|refine hK.out undef _ ?_ (fun ap=>?_)|(go_wp2_with fail;refine hK.out undef _ ?_ (fun ap=>?_)))
     ·try dsimp only
      with_reducible exact⟨hS.fix.at 6 rfl,hS.fix.at 4 rfl⟩
     clear hK KK hF aa
     refine enO hA ?_
     clear hA;clear ag
     have hmk:=Lib.hid (fun W=>run_mkR (m:Int) m rfl (by omega) W)
     have hmk1:=hmk.out WT;have c3:=hS.fix.at 3 rfl
     go_upto_region 11 with fail
     clear hmk hmk1 c3;have hb2:=(Below.refl WT.heap.size WT).alloc (Nat.le_refl _) (.cells (zr3 m) 33);replace hS:=hS.row hb2 (Nat.le_refl _) (Row3.made WT m);clear hb2;generalize WT.heap.size=g at*;generalize WT.alloc (.cells (zr3 m) 33)=WM at*;have hgi:upd gq i g i=g:=upd_same _ _ _
     have hlti:i<i+1:=by omega
     go_wp2_with fail
     go_loopw [85] (fun s wr=> ∃k:Nat,k≤m∧s= .int .i64 k∧∃lab3,SS w m N bt gk gr gv [.slice a0 m c0,.slice a1 m c1,.slice a2 n c2,.int .i64 (m:Int),.int .i64 (n:Int),(.slice ab (i+1) cb),.slice (some ⟨gk,0,none⟩) N N,.slice (some ⟨gr,0,none⟩) N N,vi,.slice av m cv,.bool (decide (z.num<0)),.string (nb z.num.natAbs),.string (nb z.den),.bool (decide (u.num<0)),.string (nb u.num.natAbs),.string (nb u.den)] (.slice ab (i+1) cb) (lbF n (i+1)) vi (liF m i gq) (bsF n (i+1)) (i+1) (upd gq i g) (fun k' x=>if k'=i then(if x<k then q3 0 else z3) else rwF k' x) (fun i=>q3 (B i)) lab3 wr) (fun s _=>m-(intOf s).toNat)
     case atStart=>exact⟨0,by omega,rfl,_,hS.congrR (fun k' x hk' hx=>by
      by_cases e:k'=i
      ·subst e;rw[upd_same,if_pos rfl,if_neg (by omega)]
      ·rw[upd_ne e,if_neg e])⟩
     case round=>
      clear hS;obtain⟨k,hk,rfl,lab3,hS⟩:=hrel
      by_cases hkt:k<m
      ·have hx0:(0:Int)≤(k:Int):=by omega
       have hx1:(k:Int)<(m:Int):=by omega
       have z0:=hS.fix.at 10 rfl;have z1:=hS.fix.at 11 rfl;have z2:=hS.fix.at 12 rfl;have hrow:=hS.rows i hlti;rw[hgi] at hrow;obtain⟨cR0,cR1,cR2⟩:=hrow.2 k hkt;have fR0:=hrow.3 (k*3);have fR1:=hrow.3 (k*3+1);have fR2:=hrow.3 (k*3+1+1);clear hrow
       go_wp2_with fail
       clear cR0 cR1 cR2 fR0 fR1 fR2 z0 z1 z2;replace hS:=hS.put hlti hkt (q3 z);rw[hgi] at hS;have hWS:sto3 wr g k (q3 z)=((wr.setCell ⟨g,k*3,none⟩ (.bool (decide (z.num<0)))).setCell ⟨g,k*3+1,none⟩ (.string (nb z.num.natAbs))).setCell ⟨g,k*3+1+1,none⟩ (.string (nb z.den)):=rfl;rw[hWS] at hS;clear hWS
       go_roundw
       case rel=>exact⟨k+1,by omega,by go_num,lab3,hS.congrR (fun k' x hk' hx=>by
        by_cases e:k'=i
        ·subst e
         rw[upd_same,if_pos rfl]
         by_cases e2:x=k
         ·subst e2;rw[upd_same,if_pos (by omega),HZ.out]
         ·rw[upd_ne e2,if_pos rfl]
          by_cases e3:x<k
          ·rw[if_pos e3,if_pos (by omega)]
          ·rw[if_neg e3,if_neg (by omega)]
        ·rw[upd_ne e,if_neg e,if_neg e])⟩
       case measure=>simp[intOf];omega
      ·obtain rfl:k=m:=by omega
       have z0:=hS.fix.at 13 rfl;have z1:=hS.fix.at 14 rfl;have z2:=hS.fix.at 15 rfl;have hrow:=hS.rows i hlti;rw[hgi] at hrow;obtain⟨cR0,cR1,cR2⟩:=hrow.2 i hlt;have fR0:=hrow.3 (i*3);have fR1:=hrow.3 (i*3+1);have fR2:=hrow.3 (i*3+1+1);clear hrow
       go_upto_region 17 with fail
       clear cR0 cR1 cR2 fR0 fR1 fR2 z0 z1 z2;replace hS:=hS.put hlti hlt (q3 u);rw[hgi] at hS;have hWS:sto3 wr g i (q3 u)=((wr.setCell ⟨g,i*3,none⟩ (.bool (decide (u.num<0)))).setCell ⟨g,i*3+1,none⟩ (.string (nb u.num.natAbs))).setCell ⟨g,i*3+1+1,none⟩ (.string (nb u.den)):=rfl;rw[hWS] at hS;clear hWS;generalize ((wr.setCell ⟨g,i*3,none⟩ (.bool (decide (u.num<0)))).setCell ⟨g,i*3+1,none⟩ (.string (nb u.num.natAbs))).setCell ⟨g,i*3+1+1,none⟩ (.string (nb u.den))=WQ at*
       have hL:Vals 27 (WQ.alloc (.cells #[.slice (some ⟨g,0,none⟩) k k] 27)) 0 (.slice (some ⟨WQ.heap.size,0,none⟩) 1 1) [.slice (some ⟨g,0,none⟩) k k]:=Vals.lit WQ (Nat.zero_le _) _ [.slice (some ⟨g,0,none⟩) k k] (by simp)
       have c8:=hS.fix.at 8 rfl;have hSa:=hS.alloc (.cells #[.slice (some ⟨g,0,none⟩) k k] 27)
       have hlen:(liF k i gq).length+ [Value.slice (some ⟨g,0,none⟩) k k].length<1000000000:=by rw[liF_len];simp;omega
       have hone: ∀u∈ [Value.slice (some ⟨g,0,none⟩) k k],u.oneCell'=true:=fun u hu=>by simp at hu;subst hu;rfl
       go_wp2_with (at_builtin;refine app_vals Tryz.underlying26 info_rats rfl (by decide) (by rfl) (by rfl) (by rfl) (by rfl) w.heap.size hSa.inv hL hone hlen hSa.old.size ?_;intro vi2 w4 e1 e2 e3;clear c8;rw[liF_snoc] at e1;obtain⟨ai,ci,rfl⟩: ∃a c,vi2= .slice a (i+1) c:=(by obtain⟨a,c,e,_⟩:=e1.form;rw[liF_len] at e;exact⟨a,c,e⟩);obtain⟨lab4,hS4⟩:=hSa.appI e2 e1 e3;have c8:=hS4.fix.at 8 rfl;have f8:=hS4.fix.fr 8 rfl)
       clear c8 f8 hL hSa hS e1 e2 e3 hlen hone
       have hS:=hS4.cell 8 (.slice ai (i+1) ci) (by simp)
       simp only[List.set] at hS
       go_roundw
       case rel=>exact⟨i+1,by omega,by go_num,_,_,_,_,hS.congrR (fun k' x hk' hx=>by
        by_cases e:k'=i
        ·subst e
         rw[upd_same]
         by_cases e2:x=k'
         ·subst e2;rw[upd_same];unfold rwF;rw[if_pos rfl,HU.out]
         ·rw[upd_ne e2];unfold rwF;simp[hx,e2]
        ·rw[upd_ne e,if_neg e])⟩
       case measure=>simp[intOf];omega)
   ·obtain rfl:i=m:=by omega
    have hN:=HN.out;have hz:=HZ.out;have hu:=HU.out;subst hz hu
    obtain⟨D,h1,h2,h3,h4,h5,h6,h7,h8,h9⟩:=SS.fin (hN▸hS) (by omega) (by omega) HA.out HB.out HC.out ⟨av,cv,rfl,hgv⟩
    have hold:=hS.old;clear hN hS HZ HU HA HB HC
    go_wp2_with fail
    go_ret
    exact⟨D,h1,h2,h3,h4,h5,h6,h7,by rw[h8];rfl,hold,h9⟩
end Go.Proofs.YtinmmkcjjlconaaGreat
