/- Walks of package nat: powOdd. -/
import Derived.Test.YtjjmfigldhdccaaDoorVp
import Derived.Test.YtjjmfigldhdccaaDoorVm
import Derived.Test.YtjjmfigldhdccaaDoorVd
namespace Go.Proofs.YtjjmfigldhdccaaDoor
open Go.RowKit W Go.Shelf
attribute [local go_sem] Oper.semAt_some
/-- a number with zeros up to n digits -/
def pd (n x : Nat) : List Int := digs x ++ List.replicate (n - (digs x).length) 0
theorem dv_inj : ∀ {l m : List Int}, Dig l → Dig m → l.length = m.length → dv l = dv m → l = m
  | [], [], _, _, _, _ => rfl
  | d :: l, e :: m, h, h', hl, hv => by
    have a := h.head
    have b := h'.head
    simp only [dv] at hv
    have e1 : d = e := by omega
    have e2 : dv l = dv m := by omega
    rw [e1, dv_inj h.tail h'.tail (by simpa using hl) e2]
theorem pd_dv (n x : Nat) : dv (pd n x) = x := by rw [pd, pad_dv, dv_digs]
theorem pd_dig (n x : Nat) : Dig (pd n x) := (digs_dig x).append (Dig.replicate _)
theorem pd_len {n x : Nat} (h : (digs x).length ≤ n) : (pd n x).length = n := by simp [pd]; omega
theorem pd_eq {n x : Nat} {l : List Int} (hd : Dig l) (hl : l.length = n) (hx : dv l = x) : l = pd n x := by
  have h : (digs x).length ≤ n := digs_length_le.2 (by
    have := dv_lt hd; rw [hl, hx] at this; exact Int.ofNat_lt.1 (by rw [Int.natCast_pow]; exact this))
  exact dv_inj hd (pd_dig n x) (by rw [hl, pd_len h]) (by rw [hx, pd_dv])
theorem unit_digs (k : Nat) : (List.replicate (k + 1) (0 : Int)).set k 1 = digs (4294967296 ^ k) := by
  have hd : Dig ((List.replicate (k + 1) (0 : Int)).set k 1) := (Dig.replicate _).set k (by omega) (by omega)
  have hv : dv ((List.replicate (k + 1) (0 : Int)).set k 1) = ((4294967296 ^ k : Nat) : Int) := by
    rw [dv_set _ _ _ (by simp), dv_replicate]; simp
  have ht : Trim ((List.replicate (k + 1) (0 : Int)).set k 1) := by
    intro h
    rw [List.getLast_eq_getElem]
    simp
  have := digs_dv hd ht
  rw [hv, Int.toNat_natCast] at this
  exact this.symm
theorem npad_call (x n : Nat) (vx : Value) (w : World) (h : U32s w 0 vx (digs x)) (hl : (digs x).length ≤ n) (hn : n ≤ 1073741824) :
    Calls Tryd.prog 75 #[vx, .int .i64 n] w fun e w' => (∃ v, e = .returned v ∧ U32s w' w.heap.size v (pd n x)) ∧ Below w.heap.size w w' := npadded_any (digs x) vx n w h hl hn
theorem mont_step {M n X a b Y : Nat} {r : List Int} {k : Int} (hX : X = 4294967296 ^ n) (hodd : M % 2 = 1) (hd : Dig r) (hl : r.length = n) (hlt : dv r < dv (digs M))
    (hv : (4294967296 : Int) ^ n * dv r = dv (pd n a) * dv (pd n b) + k * dv (digs M)) (hab : a * b % M = X * Y % M) : r = pd n (Y % M) := by
  obtain ⟨r', hr'⟩ := Int.eq_ofNat_of_zero_le (dv_nonneg hd)
  rw [dv_digs] at hlt hv
  rw [pd_dv, pd_dv] at hv
  refine pd_eq hd hl ?_
  have hc := cop_pow hodd n
  rw [← hX] at hc
  have hXi : ((X : Nat) : Int) = 4294967296 ^ n := by rw [hX, Int.natCast_pow]; rfl
  rw [← hXi] at hv
  have := mont_value hc hv hlt rfl rfl hr' hab
  rw [hr', this]
theorem nmont_call (M n X a b Y : Nat) (va vb vm : Value) (f m0 : Int) (w : World) (hn : (digs M).length = n) (hn1 : n ≤ 33554430) (hX : X = 4294967296 ^ n) (hodd : M % 2 = 1) (hm0 : ((M % 4294967296 : Nat) : Int) = m0)
    (ha : U32s w 0 va (pd n a)) (hb : U32s w 0 vb (pd n b)) (hm : U32s w 0 vm (digs M)) (haM : a < M) (hbM : b ≤ M) (hf : (f * m0 + 1) % 4294967296 = 0) (hab : a * b % M = X * Y % M) :
    Calls Tryd.prog 76 #[va, vb, vm, .int .u32 f] w fun e w' => (∃ v, e = .returned v ∧ U32s w' 0 v (pd n (Y % M))) ∧ Below w.heap.size w w' := by
  obtain ⟨hp, hd0⟩ := digit0 (show M ≠ 0 by omega)
  have la : (digs a).length ≤ n := by rw [← hn]; exact digs_len_mono (Nat.le_of_lt haM)
  have lb : (digs b).length ≤ n := by rw [← hn]; exact digs_len_mono hbM
  obtain ⟨j, rfl⟩ : ∃ j, n = j + 1 := ⟨n - 1, by omega⟩
  refine (nmont_any (pd (j + 1) a) (pd (j + 1) b) (digs M) va vb vm j f w (pd_dig _ _) (pd_dig _ _) (digs_dig M) (pd_len la) (pd_len lb) hn ha hb hm (by rw [pd_dv, dv_digs]; exact Int.ofNat_lt.2 haM) (by rw [hd0, hm0]; exact hf) (by omega) M rfl).mono ?_
  rintro e w' ⟨⟨v, r, rfl, hr, hd, hl, hlt, k, hv⟩, hbe⟩
  have e1 := mont_step hX hodd hd hl hlt hv hab
  exact ⟨⟨v, rfl, by rw [← e1]; exact hr.low (Nat.zero_le _)⟩, hbe⟩
/-- what powOdd's loop holds in a world -/
structure CF (w0 W W' : World) (b12 b5 b11 b9 : Nat) (v12 vm vb : Value) (f : Int) (l12 lm lb : List Int) : Prop where
  br : Boxed W' b12 56 v12
  bm : Boxed W' b5 56 vm
  bb : Boxed W' b11 56 vb
  bf : Boxed W' b9 52 (.int .u32 f)
  rr : U32s W' 0 v12 l12
  rm : U32s W' 0 vm lm
  rb : U32s W' 0 vb lb
  bel : Below w0.heap.size w0 W'
  gr : W.grownBy W' (some b12)
theorem CF.below {w0 W W' W2 : World} {b12 b5 b11 b9 : Nat} {v12 vm vb : Value} {f : Int} {l12 lm lb : List Int} (h : CF w0 W W' b12 b5 b11 b9 v12 vm vb f l12 lm lb) (hb : Below W'.heap.size W' W2) : CF w0 W W2 b12 b5 b11 b9 v12 vm vb f l12 lm lb :=
  ⟨box_below h.br hb, box_below h.bm hb, box_below h.bb hb, (hb.block b9 h.bf.lt).trans h.bf, h.rr.below hb, h.rm.below hb, h.rb.below hb, h.bel.trans (hb.mono h.bel.size), grownBy_trans h.gr (grownBy_of_below hb)⟩
theorem CF.store {w0 W W' : World} {b12 b5 b11 b9 : Nat} {v12 vm vb v : Value} {f : Int} {l12 l12' lm lb : List Int} (h : CF w0 W W' b12 b5 b11 b9 v12 vm vb f l12 lm lb) (hv : U32s W' 0 v l12') (h5 : b5 ≠ b12) (h11 : b11 ≠ b12) (h9 : b9 ≠ b12) (hw : w0.heap.size ≤ b12) :
    CF w0 W (W'.setCell ⟨b12, 0, none⟩ v) b12 b5 b11 b9 v vm vb f l12' lm lb :=
  ⟨h.br.set v, h.bm.other h5 v, h.bb.other h11 v, h.bf.other h9 v, hv.other h.br, h.rm.other h.br, h.rb.other h.br, h.bel.setCell (p := ⟨b12, 0, none⟩) hw v, grownBy_trans h.gr (grownBy_setCell' W' b12 v)⟩
theorem CF.fin {w0 W W2 : World} {b12 b5 b11 b9 : Nat} {v12 vm vb u : Value} {f : Int} {l12 lm lb : List Int} (h : CF w0 W W2 b12 b5 b11 b9 v12 vm vb f l12 lm lb) (hb : Boxed W b12 56 u) {S : Nat → Prop} (hS : ∀ k, S k → k < W.heap.size ∧ k ≠ b12) : KeepsOthers W W2 ∧ KeptAt S W W2 :=
  ⟨KeepsOthers.of_grownBy h.gr (fun j o ej hj => by cases ej; rw [show W.heap[b12]? = _ from hb] at hj; cases hj; rfl), fun k hk => h.gr.block k (hS k hk).1 (fun e => (hS k hk).2 (by cases e; rfl))⟩
/-- what powOdd holds in memory -/
structure OF (w W : World) (b5 b9 : Nat) (vm ve vu : Value) (f : Int) (M E U : Nat) : Prop where
  box : Boxed W b5 56 vm
  bf : Boxed W b9 52 (.int .u32 f)
  rm : U32s W 0 vm (digs M)
  re : U32s W 0 ve (digs E)
  ru : U32s W 0 vu (digs U)
  bel : Below w.heap.size w W
theorem OF.plain {w W W' : World} {b5 b9 M E U : Nat} {vm ve vu : Value} {f : Int} (h : OF w W b5 b9 vm ve vu f M E U) (hb : Below W.heap.size W W') : OF w W' b5 b9 vm ve vu f M E U :=
  ⟨box_below h.box hb, (hb.block b9 h.bf.lt).trans h.bf, h.rm.below hb, h.re.below hb, h.ru.below hb, h.bel.trans (hb.mono h.bel.size)⟩
theorem OF.al {w W : World} {b5 b9 M E U : Nat} {vm ve vu : Value} {f : Int} (h : OF w W b5 b9 vm ve vu f M E U) (o : Obj) : OF w (W.alloc o) b5 b9 vm ve vu f M E U := h.plain ((Below.refl _ W).alloc (Nat.le_refl _) o)
theorem OF.other {w W : World} {b5 b9 b M E U : Nat} {vm ve vu u : Value} {f : Int} (h : OF w W b5 b9 vm ve vu f M E U) (hb : Boxed W b 56 u) (h5 : b5 ≠ b) (h9 : b9 ≠ b) (hw : w.heap.size ≤ b) (v : Value) : OF w (W.setCell ⟨b, 0, none⟩ v) b5 b9 vm ve vu f M E U :=
  ⟨h.box.other h5 v, h.bf.other h9 v, h.rm.other hb, h.re.other hb, h.ru.other hb, h.bel.setCell (p := ⟨b, 0, none⟩) hw v⟩
/-- a box made in between -/
structure NB2 (w W : World) (b5 b9 b : Nat) : Prop where
  box : Boxed W b 56 (.slice none 0 0)
  ne5 : b5 ≠ b
  ne9 : b9 ≠ b
  low : w.heap.size ≤ b
theorem NB2.plain {w W W' : World} {b5 b9 b : Nat} (h : NB2 w W b5 b9 b) (hb : Below W.heap.size W W') : NB2 w W' b5 b9 b := ⟨box_below h.box hb, h.ne5, h.ne9, h.low⟩
theorem NB2.new {w W : World} {b5 b9 M E U : Nat} {vm ve vu : Value} {f : Int} (h : OF w W b5 b9 vm ve vu f M E U) : NB2 w (W.alloc (.cells #[.slice none 0 0] 56)) b5 b9 W.heap.size :=
  ⟨Boxed.new W _ _, Nat.ne_of_lt h.box.lt, Nat.ne_of_lt h.bf.lt, h.bel.size⟩
set_option maxRecDepth 100000 in
set_option maxHeartbeats 8000000 in
theorem npowodd_any (A E M k : Nat) (va ve vm : Value) (w : World) (ha : U32s w 0 va (digs A)) (he : U32s w 0 ve (digs E)) (hm : U32s w 0 vm (digs M)) (hodd : M % 2 = 1) (hk : (digs M).length = k + 1)
    (hA : (digs A).length ≤ 33554432) (hE : (digs E).length ≤ 33554432) (hM : k + 1 ≤ 33554430) :
    Calls Tryd.prog 53 #[va, ve, vm] w fun e w' => (∃ v, e = .returned v ∧ U32s w' 0 v (digs (A ^ E % M))) ∧ Below w.heap.size w w' := by
  obtain ⟨hp, hd0⟩ := digit0 (show M ≠ 0 by omega)
  have hM0 : 0 < M := by omega
  obtain ⟨am, cm, rfl, hcm, hmm, hcellm⟩ := hm.open
  obtain ⟨gm, hgm1, hgm2, rfl, hcm0⟩ := hcellm 0 hp
  rw [hd0] at hcm0
  clear hcellm
  obtain ⟨ae, ce, rfl, hce1, hce2, hce3⟩ := he.open
  clear hce3
  have hb5 : Below w.heap.size w (w.alloc (.cells #[.slice (some ⟨gm, 0, none⟩) (digs M).length cm] 56)) := (Below.refl _ _).alloc (Nat.le_refl _) _
  have hbx5 := Boxed.new w 56 (.slice (some ⟨gm, 0, none⟩) (digs M).length cm)
  have ha1 := ha.below hb5
  have he1 := he.below hb5
  have hm1 := hm.below hb5
  have hcm1 : (w.alloc (.cells #[.slice (some ⟨gm, 0, none⟩) (digs M).length cm] 56)).cell? ⟨gm, 0, none⟩ = some (.int .u32 ((M % 4294967296 : Nat) : Int)) := by rw [hb5.cell (p := ⟨gm, 0, none⟩) hgm2]; exact hcm0
  have hcc := hbx5.cell
  obtain ⟨m0, hm0⟩ : ∃ m0 : Int, ((M % 4294967296 : Nat) : Int) = m0 := ⟨_, rfl⟩
  have hm02 : m0 % 2 = 1 := by omega
  have hq0 : 0 ≤ m0 := by omega
  have hq1 : m0 < 4294967296 := by omega
  rw [hm0] at hcm1
  have HM0 := Lib.hid (And.intro hm0 hm02)
  have HK := Lib.hid hk
  clear hm0 hcm0 hd0 ha he hm hm02 hk
  refine (callsIn_wide (n := 9)).1 ?_
  refine callsIn_of_wp_marks Tryd.func53 rfl trivial ?_ rfl
  simp only [Tryd.ntmps53, List.size_toArray, List.length_cons, List.length_nil, Nat.reduceAdd, Nat.reduceSub, Array.replicate_succ, Array.replicate_zero, List.push_toArray, List.append_toArray, List.nil_append, List.cons_append]
  refine wpIn_wide.2 ?_
  go_wp2_with fail
  generalize w.alloc (.cells #[.slice (some ⟨gm, 0, none⟩) (digs M).length cm] 56) = w5 at *
  generalize hb5e : w.heap.size = b5 at hbx5 hcc ⊢
  go_loop [8, 16] (fun v i => ∃ (ii : Nat) (inv : Int), ii ≤ 5 ∧ NI m0 ii inv ∧ 0 ≤ inv ∧ inv < 4294967296 ∧ v = .int .u32 inv ∧ i = .int .i64 ii) (fun _ i => 5 - (intOf i).toNat)
  case atStart => exact ⟨0, 1, by omega, NI.start HM0.out.2, by omega, by omega, rfl, rfl⟩
  case round =>
    obtain ⟨i, inv, hi, hni, hv0, hv1, rfl, rfl⟩ := hrel
    by_cases hlt : i < 5
    · have hnx := Lib.hid (hni.step' hlt)
      go_wp2
      go_round
      case rel => exact ⟨i + 1, _, by omega, hnx.out, by omega, by omega, rfl, by go_num⟩
      case measure => simp [intOf]; omega
    · obtain rfl : i = 5 := by omega
      have HFM := Lib.hid hni.done
      clear hni
      obtain ⟨f, hf⟩ : ∃ f, f = -inv % 4294967296 := ⟨_, rfl⟩
      have hf0 : 0 ≤ f := by omega
      have hf1 : f < 4294967296 := by omega
      have hml : (digs M).length ≤ 33554430 := by have := HK.out; omega
      have hpf0 : PF w w5 b5 (.slice (some ⟨gm, 0, none⟩) (digs M).length cm) (.slice ae (digs E).length ce) (digs M) (digs E) := ⟨hbx5, hm1, he1, hb5⟩
      have hpf9 := hpf0.al (.cells #[.int .u32 f] 52)
      have hbf9 := Boxed.new w5 52 (.int .u32 f)
      have ha9 := ha1.alloc (.cells #[.int .u32 f] 52)
      have hmk := urun_mk (((digs M).length : Int) + 1) ((digs M).length + 1) (by simp) (by omega)
      have hmade := Lib.hid (U32s.made (w5.alloc (.cells #[.int .u32 f] 52)) ((digs M).length + 1) (by omega))
      have hfs := hf.symm
      rw [hfs] at HFM
      clear hf
      go_upto_region 9 with fail
      clear hmk
      have hsz9 := World.size_alloc w5 (.cells #[.int .u32 f] 52)
      have hu0 := hmade.out
      clear hmade
      have hb59 : b5 ≠ w5.heap.size := Nat.ne_of_lt hbx5.lt
      have hw9 : w.heap.size ≤ w5.heap.size := hb5.size
      rw [hsz9] at hu0
      have hbW0 := (Below.refl (w5.alloc (.cells #[.int .u32 f] 52)).heap.size (w5.alloc (.cells #[.int .u32 f] 52))).alloc (Nat.le_refl _) (.cells (uzrow ((digs M).length + 1)) 52)
      have hbW := hbW0.setCell (p := ⟨w5.heap.size + 1, (digs M).length, none⟩) (by rw [hsz9]; exact Nat.le_refl _) (.int .u32 1)
      generalize w5.heap.size = b9 at *
      obtain ⟨c1, c2⟩ := hu0.at (digs M).length (by simp)
      have hus := (hu0.set (digs M).length 1).of_eq (unit_digs (digs M).length)
      have hof : OF w _ b5 b9 (.slice (some ⟨gm, 0, none⟩) (digs M).length cm) (.slice ae (digs E).length ce) (.slice (some ⟨b9 + 1, 0, none⟩) ((digs M).length + 1) ((digs M).length + 1)) f M E (4294967296 ^ (digs M).length) :=
        ⟨box_below hpf9.box hbW, (hbW.block b9 hbf9.lt).trans hbf9, hpf9.rm.below hbW, hpf9.re.below hbW, hus.low (Nat.zero_le _), hpf9.bel.trans (hbW.mono hpf9.bel.size)⟩
      have ha10 := ha9.below hbW
      generalize w5.alloc (.cells #[.int .u32 f] 52) = w9 at *
      clear hus hbW hbW0 hu0 hpf9 hbf9 ha9 hpf0 hbx5 hm1 he1 hb5 hcm1 hcc ha1 hsz9 hfs
      go_upto_region 10 with fail
      clear c1 c2
      generalize (w9.alloc (.cells (uzrow ((digs M).length + 1)) 52)).setCell ⟨b9 + 1, (digs M).length, none⟩ (.int .u32 1) = wU at *
      obtain ⟨X, hX⟩ : ∃ X, X = 4294967296 ^ (digs M).length := ⟨_, rfl⟩
      rw [← hX] at hof
      have hXl : (digs X).length ≤ 33554432 := by rw [hX, ← unit_digs]; simp; omega
      have HX := Lib.hid hX
      clear hX
      obtain ⟨A2, hA2⟩ : ∃ A2, A2 = A % M := ⟨_, rfl⟩
      have HA2 := Lib.hid hA2
      clear hA2
      have hAl : (digs A2).length ≤ 33554432 := by have := digs_len_mono (show A2 ≤ M from by rw [HA2.out]; exact Nat.le_of_lt (Nat.mod_lt A hM0)); omega
      have hBl : (digs (A2 * X % M)).length ≤ (digs M).length := digs_len_mono (Nat.le_of_lt (Nat.mod_lt _ hM0))
      have hofU := hof
      have hof := hofU.plain (Below.refl _ wU).drew
      have hofz : OF w (wU.alloc (.cells #[.slice none 0 0] 56)).drew b5 b9 (.slice (some ⟨gm, 0, none⟩) (digs M).length cm) (.slice ae (digs E).length ce) (.slice (some ⟨b9 + 1, 0, none⟩) ((digs M).length + 1) ((digs M).length + 1)) f M E X := (hofU.al _).plain (Below.refl _ _).drew
      have hnbz : NB2 w (wU.alloc (.cells #[.slice none 0 0] 56)).drew b5 b9 wU.heap.size := (NB2.new hofU).plain (Below.refl _ _).drew
      have hav : U32s wU.drew 0 va (digs A) := World.ownsRow.drew ha10
      have havz : U32s (wU.alloc (.cells #[.slice none 0 0] 56)).drew 0 va (digs A) := World.ownsRow.drew (ha10.alloc _)
      clear hofU ha10
      go_cut [11] from 17 to 43 (fun s11 wx => ∃ b11 : Nat, s11 = .pointer (some ⟨b11, 0, none⟩) ∧ HB wx b11 (pd (digs M).length (A2 * X % M)) ∧ b5 ≠ b11 ∧ b9 ≠ b11 ∧ w.heap.size ≤ b11 ∧ OF w wx b5 b9 (.slice (some ⟨gm, 0, none⟩) (digs M).length cm) (.slice ae (digs E).length ce) (.slice (some ⟨b9 + 1, 0, none⟩) ((digs M).length + 1) ((digs M).length + 1)) f M E X)
      case first =>
        go_region_held3 (fun w' => w'.cell? ⟨b5, 0, none⟩ = some (.slice (some ⟨gm, 0, none⟩) (digs M).length cm)) (first | with_reducible exact hof.box.cell | with_reducible exact hofz.box.cell | with_reducible exact (hof.al _).box.cell | with_reducible exact (hof.other hnb.box hnb.ne5 hnb.ne9 hnb.low _).box.cell | go_keep) (first | (have hq0 := hav; clear hq0; go_at_call 55; refine (nrest_any A M va _ _ (by first | with_reducible exact hav | with_reducible exact havz) (by first | with_reducible exact hof.rm | with_reducible exact hofz.rm | with_reducible exact (hof.al _).rm) hM0 (by omega)).mono ?_; rintro en wA ⟨⟨vA, rfl, hvA⟩, hbA⟩; rw [← HA2.out] at hvA; (first | (have q1 := (by with_reducible exact hof.plain hbA); have hof := q1; clear q1; (first | (have q2 := hnb.plain hbA; have hnb := q2; clear q2; have hzc := hnb.box.cell; have hzf := hnb.box.frozen) | skip)) | (have hnb := (by with_reducible exact hnbz.plain hbA); have hzc := hnb.box.cell; have hzf := hnb.box.frozen; have q1 := hofz.plain hbA; have hof := q1; clear q1)); clear hav) | (go_at_call 56; refine (nproduct_any A2 X _ _ _ (by first | with_reducible exact hvA | with_reducible exact (hvA).alloc _) (by first | with_reducible exact hof.ru | with_reducible exact hofz.ru | with_reducible exact (hof.al _).ru) hAl hXl).mono ?_; rintro en wP ⟨⟨vP, rfl, hvP⟩, hbP⟩; (first | (have q1 := (by with_reducible exact hof.plain hbP); have hof := q1; clear q1; (first | (have q2 := hnb.plain hbP; have hnb := q2; clear q2; have hzc := hnb.box.cell; have hzf := hnb.box.frozen) | skip)) | (have hnb := (by with_reducible exact (NB2.new hof).plain hbP); have hzc := hnb.box.cell; have hzf := hnb.box.frozen; have q1 := (hof.al (.cells #[.slice none 0 0] 56)).plain hbP; have hof := q1; clear q1))) | (go_at_call 55; refine (nrest_any (A2 * X) M _ _ _ (by first | with_reducible exact hvP | with_reducible exact (hvP).alloc _) (by first | with_reducible exact hof.rm | with_reducible exact hofz.rm | with_reducible exact (hof.al _).rm) hM0 (prod_len hAl hXl)).mono ?_; rintro en wB ⟨⟨vB, rfl, hvB⟩, hbB⟩; (first | (have q1 := (by with_reducible exact hof.plain hbB); have hof := q1; clear q1; (first | (have q2 := hnb.plain hbB; have hnb := q2; clear q2; have hzc := hnb.box.cell; have hzf := hnb.box.frozen) | skip)) | (have hnb := (by with_reducible exact (NB2.new hof).plain hbB); have hzc := hnb.box.cell; have hzf := hnb.box.frozen; have q1 := (hof.al (.cells #[.slice none 0 0] 56)).plain hbB; have hof := q1; clear q1)); clear hvP) | (go_at_call 75; refine (npad_call (A2 * X % M) (digs M).length _ _ (by first | with_reducible exact hvB | with_reducible exact (hvB).alloc _) hBl (by omega)).mono ?_; rintro en wD ⟨⟨vD, rfl, hvD⟩, hbD⟩; (first | (have q1 := (by with_reducible exact hof.plain hbD); have hof := q1; clear q1; (first | (have q2 := hnb.plain hbD; have hnb := q2; clear q2; have hzc := hnb.box.cell; have hzf := hnb.box.frozen) | skip)) | (have hnb := (by with_reducible exact (NB2.new hof).plain hbD); have hzc := hnb.box.cell; have hzf := hnb.box.frozen; have q1 := (hof.al (.cells #[.slice none 0 0] 56)).plain hbD; have hof := q1; clear q1)); obtain ⟨aR, cR, rfl, hcR1, hcR2, hcR3⟩ := hvD.open; clear hcR3))
        all_goals go_wp2
        all_goals go_meet
        all_goals case rel => first
          | exact ⟨wD.heap.size, rfl, ⟨_, Boxed.new _ _ _, (hvD.low (Nat.zero_le _)).alloc _, trivial⟩, Nat.ne_of_lt hof.box.lt, Nat.ne_of_lt hof.bf.lt, hof.bel.size, hof.al _⟩
          | exact ⟨_, rfl, HB.put hnb.box (hvD.low (Nat.zero_le _)), hnb.ne5, hnb.ne9, hnb.low, hof.other hnb.box hnb.ne5 hnb.ne9 hnb.low _⟩
      case rest =>
        clear hof hofz hnbz hav havz
        obtain ⟨b11, rfl, hB11, hne5, hne9, hlow11, hof⟩ := hcut
        have hcc := hof.box.cell
        have hrl2 := prod_len (X := 1) (Y := X) (by rw [show digs 1 = [1] from by rw [digs_pos (by omega)]; simp [digs_zero]]; simp) hXl
        rw [Nat.one_mul] at hrl2
        have hCl : (digs (X % M)).length ≤ (digs M).length := digs_len_mono (Nat.le_of_lt (Nat.mod_lt _ hM0))
        go_wp2_with fail
        refine (nrest_any X M _ _ _ hof.ru hof.rm hM0 hrl2).mono ?_
        rintro en wA ⟨⟨vA, rfl, hvA⟩, hbA⟩
        have hof2 := hof.plain hbA
        have hB12 := hB11.below hbA
        clear hof hB11 hcc
        go_wp2_with fail
        refine (npad_call (X % M) (digs M).length _ _ hvA hCl (by omega)).mono ?_
        rintro en wD ⟨⟨vD, rfl, hvD⟩, hbD⟩
        obtain ⟨aR, cR, rfl, hcR1, hcR2, hcR3⟩ := hvD.open
        clear hcR3
        have hof3 := hof2.plain hbD
        have hB13 := hB12.below hbD
        clear hof2 hB12
        go_wp2_with (go_at_call 54; refine (nexponent_any _ _ _ _).mono ?_; rintro en wE ⟨rfl, rfl⟩)
        have hn5 : b5 ≠ wD.heap.size := Nat.ne_of_lt hof3.box.lt
        have hn9 : b9 ≠ wD.heap.size := Nat.ne_of_lt hof3.bf.lt
        have hn11 : b11 ≠ wD.heap.size := Nat.ne_of_lt hB13.lt
        have hlow12 := hof3.bel.size
        have hof4 := hof3.al (.cells #[.slice aR (pd (digs M).length (X % M)).length cR] 56)
        have hB14 := hB13.alloc (.cells #[.slice aR (pd (digs M).length (X % M)).length cR] 56)
        have hR4 : HB (wD.alloc (.cells #[.slice aR (pd (digs M).length (X % M)).length cR] 56)) wD.heap.size (pd (digs M).length (X % M)) := ⟨_, Boxed.new _ _ _, (hvD.low (Nat.zero_le _)).alloc _, trivial⟩
        have hsz3 := World.size_alloc wD (.cells #[.slice aR (pd (digs M).length (X % M)).length cR] 56)
        clear hof3 hB13
        generalize wD.heap.size = b12 at *
        generalize wD.alloc (.cells #[.slice aR (pd (digs M).length (X % M)).length cR] 56) = wE at *
        have hof5 := hof4.al (.cells #[.slice ae (digs E).length ce] 56)
        have hB5 := hB14.alloc (.cells #[.slice ae (digs E).length ce] 56)
        have hR5 := hR4.alloc (.cells #[.slice ae (digs E).length ce] 56)
        have hE4 := Boxed.new wE 56 (.slice ae (digs E).length ce)
        rw [hsz3] at hE4
        clear hof4 hB14 hR4
        generalize wE.alloc (.cells #[.slice ae (digs E).length ce] 56) = wF at *
        have hneE := box_ne_row hR5.choose_spec.1 hof5.re
        have hR50 : HB wF b12 (pd (digs M).length (A ^ bnat [] * X % M)) := by
          have : A ^ bnat [] * X % M = X % M := by simp [bnat]
          rw [this]; exact hR5
        refine (wpIn_wide (n := 9)).1 ?_
        apply wpIn_rangeFunc_ownF (F := Fence.wide) rfl (by omega) (gf := 77) (lb := #[.pointer (some ⟨b12 + 1, 0, none⟩)]) rfl trivial (enters_of Tryd.func77 (by kernel_rfl) rfl)
          (exp_stops Fence.wide (9 - 1) trivial rfl (by omega) (b12 + 1) (.slice ae (digs E).length ce) (digs E) (digs_dig _) (by omega) wF hE4.cell hE4.lt hof5.re)
          KeptAt.t (KeptAt.b (fun k hk => by rcases hk with rfl | hk; exact hE4.lt; exact hof5.re.lt k hk)) (Below.refl _ _) (fun _ => rfl)
          (fun pre W => (HB W b12 (pd (digs M).length (A ^ bnat pre * X % M)) ∧ HB W b5 (digs M)) ∧ ((HB W b11 (pd (digs M).length (A2 * X % M)) ∧ Boxed W b9 52 (.int .u32 f)) ∧ (Below w.heap.size w W ∧ wF.heap.size ≤ W.heap.size)))
          (fun _ _ _ => False)
          (OwnFrom.and (OwnFrom.and (Own.from (holdsRow_own 0 b12 _ _ 1 (fun pre => (pd (digs M).length (A ^ bnat pre * X % M)).length) (fun pre => (pd (digs M).length (A ^ bnat pre * X % M)).map (Value.int .u32)) (fun _ _ => True)) _) (Own.from (holdsRow_own 0 b5 _ _ 1 (fun _ => (digs M).length) (fun _ => (digs M).map (Value.int .u32)) (fun _ _ => True)) _)) (OwnFrom.and (OwnFrom.and (Own.from (holdsRow_own 0 b11 _ _ 1 (fun _ => (pd (digs M).length (A2 * X % M)).length) (fun _ => (pd (digs M).length (A2 * X % M)).map (Value.int .u32)) (fun _ _ => True)) _) (Own.from (boxed_own b9 _ (fun _ => .int .u32 f)) _)) (OwnFrom.and (ownFrom_below (Nat.le_refl _) hof5.bel.size) (fun _ _ _ _ hs hg _ => Nat.le_trans hs hg.size))))
          (fun _ _ _ _ _ hs _ _ => hs)
          ⟨⟨hR50, ⟨_, hof5.box, hof5.rm, trivial⟩⟩, ⟨hB5, hof5.bf⟩, hof5.bel, Nat.le_refl _⟩
        case hassign =>
          intro l x W K hK
          gi_wp2
          exact hK
        case hstop =>
          rintro D c pre W _ _ h _
          exact h.elim
        case hbody =>
          rintro l pre x W ⟨⟨hR, hMx⟩, ⟨hBs, hbf9⟩, hbel, hszW⟩ hpre
          obtain ⟨vr, br, hr, _⟩ := hR
          obtain ⟨vm', bm, hm5, _⟩ := hMx
          obtain ⟨vb, bb, hb5, _⟩ := hBs
          obtain ⟨N, hN⟩ : ∃ N, N = A ^ bnat pre * X % M := ⟨_, rfl⟩
          obtain ⟨N1, hN1⟩ : ∃ N1, N1 = A ^ (2 * bnat pre) * X % M := ⟨_, rfl⟩
          obtain ⟨N2, hN2⟩ : ∃ N2, N2 = A2 * X % M := ⟨_, rfl⟩
          rw [← hN] at hr
          rw [← hN2] at hb5
          have hNM : N < M := by rw [hN]; exact Nat.mod_lt _ hM0
          have hNM1 : N1 < M := by rw [hN1]; exact Nat.mod_lt _ hM0
          have hNM2 : N2 < M := by rw [hN2]; exact Nat.mod_lt _ hM0
          have HN := Lib.hid hN
          have HN1 := Lib.hid hN1
          have HN2 := Lib.hid hN2
          clear hN hN1 hN2
          have hcf : CF w W W b12 b5 b11 b9 vr vm' vb f (pd (digs M).length N) (digs M) (pd (digs M).length N2) := ⟨br, bm, bb, hbf9, hr, hm5, hb5, hbel, World.grownBy.refl _ _⟩
          have cc1 := br.cell
          have cc3 := bm.cell
          have cc4 := bb.cell
          have cc5 := hbf9.cell
          have hSk : ∀ k, (k = b12 + 1 ∨ (Value.slice ae (digs E).length ce).ownBlock = some k) → k < W.heap.size ∧ k ≠ b12 := fun k hk => by
            rcases hk with rfl | hk
            · exact ⟨Nat.lt_of_lt_of_le hE4.lt hszW, by omega⟩
            · exact ⟨Nat.lt_of_lt_of_le (hof5.re.lt k hk) hszW, fun e9 => hneE (by rw [hk, e9])⟩
          have hbr := br
          clear br bm bb hr hm5 hb5 hbel hbf9
          have hd : 1 ≤ 9 - 1 - 1 := by omega
          cases x with
          | false =>
            have hpw : A ^ (2 * bnat pre + false.toNat) * X % M = N1 := by rw [HN1.out]; simp
            have HPW := Lib.hid hpw
            clear hpw
            gi_wp2_with (first | (refine ⟨trivial, ?_⟩; gi_at_call 76; refine (CallsIn.inRound l (callsIn_wide.2 (nmont_call M (digs M).length X N N (A ^ (2 * bnat pre) * X) _ _ _ f m0 _ rfl hml HX.out hodd HM0.out.1 hcf.rr hcf.rr hcf.rm hNM (Nat.le_of_lt hNM) HFM.out (by rw [HN.out]; exact mont_sq _ _ _ _)))).mono ?_; rintro en wR ⟨⟨vR, rfl, hvR⟩, hbR⟩; have hcfR := hcf.below hbR; clear hcf; rw [← HN1.out] at hvR; obtain ⟨aS, cS, rfl, hcS1, hcS2, hcS3⟩ := hvR.open; clear hcS3; have f1 := hcfR.br.cell; have f2 := hcfR.br.frozen))
            have hcf2 := hcfR.store hvR hn5 hn11 hn9 hlow12
            exact ⟨(hcf2.fin hbr hSk).1, (hcf2.fin hbr hSk).2, ⟨⟨_, hcf2.br, by rw [bnat_snoc, HPW.out]; exact hcf2.rr, trivial⟩, ⟨_, hcf2.bm, hcf2.rm, trivial⟩⟩, ⟨⟨_, hcf2.bb, by rw [← HN2.out]; exact hcf2.rb, trivial⟩, hcf2.bf⟩, hcf2.bel, Nat.le_trans hszW hcf2.gr.size⟩
          | true =>
            obtain ⟨N3, hN3⟩ : ∃ N3, N3 = A ^ (2 * bnat pre + 1) * X % M := ⟨_, rfl⟩
            have HN3 := Lib.hid hN3
            clear hN3
            gi_wp2_with (first | (have hq0 := hcf; clear hq0; refine ⟨trivial, ?_⟩; gi_at_call 76; refine (CallsIn.inRound l (callsIn_wide.2 (nmont_call M (digs M).length X N N (A ^ (2 * bnat pre) * X) _ _ _ f m0 _ rfl hml HX.out hodd HM0.out.1 hcf.rr hcf.rr hcf.rm hNM (Nat.le_of_lt hNM) HFM.out (by rw [HN.out]; exact mont_sq _ _ _ _)))).mono ?_; rintro en wR ⟨⟨vR, rfl, hvR⟩, hbR⟩; have hcfR := hcf.below hbR; clear hcf; rw [← HN1.out] at hvR; obtain ⟨aS, cS, rfl, hcS1, hcS2, hcS3⟩ := hvR.open; clear hcS3; have f1 := hcfR.br.cell; have f2 := hcfR.br.frozen; have hcf2 := hcfR.store hvR hn5 hn11 hn9 hlow12; have g1 := hcf2.br.cell; have g3 := hcf2.bm.cell; have g4 := hcf2.bb.cell; have g5 := hcf2.bf.cell; clear hcfR) | (have hq0 := hcf2; clear hq0; refine ⟨trivial, ?_⟩; gi_at_call 76; refine (CallsIn.inRound l (callsIn_wide.2 (nmont_call M (digs M).length X N1 N2 (A ^ (2 * bnat pre + 1) * X) _ _ _ f m0 _ rfl hml HX.out hodd HM0.out.1 hcf2.rr hcf2.rb hcf2.rm hNM1 (Nat.le_of_lt hNM2) HFM.out (by rw [HN1.out, HN2.out, HA2.out]; exact mont_mul _ _ _ _)))).mono ?_; rintro en wS ⟨⟨vS, rfl, hvS⟩, hbS⟩; have hcfS := hcf2.below hbS; clear hcf2; rw [← HN3.out] at hvS; obtain ⟨aT, cT, rfl, hcT1, hcT2, hcT3⟩ := hvS.open; clear hcT3; have f3 := hcfS.br.cell; have f4 := hcfS.br.frozen))
            have hcf3 := hcfS.store hvS hn5 hn11 hn9 hlow12
            exact ⟨(hcf3.fin hbr hSk).1, (hcf3.fin hbr hSk).2, ⟨⟨_, hcf3.br, by rw [bnat_snoc, show 2 * bnat pre + true.toNat = 2 * bnat pre + 1 from rfl, ← HN3.out]; exact hcf3.rr, trivial⟩, ⟨_, hcf3.bm, hcf3.rm, trivial⟩⟩, ⟨⟨_, hcf3.bb, by rw [← HN2.out]; exact hcf3.rb, trivial⟩, hcf3.bf⟩, hcf3.bel, Nat.le_trans hszW hcf3.gr.size⟩
        case hdone =>
          rintro D xs W hD rfl ⟨⟨⟨vr, br, hr, _⟩, ⟨vm', bm, hm5, _⟩⟩, ⟨⟨vb, bb, hb5, _⟩, hbf9⟩, hbel, hszW⟩ hK
          have e7 : bnat (ebits (digs E)) = E := by
            have := bnat_ebits _ (digs_dig E)
            rw [dv_digs] at this
            exact Int.ofNat_inj.1 this
          rw [e7] at hr
          obtain ⟨N, hN⟩ : ∃ N, N = A ^ E * X % M := ⟨_, rfl⟩
          rw [← hN] at hr
          have hNM : N < M := by rw [hN]; exact Nat.mod_lt _ hM0
          have HN := Lib.hid hN
          clear hN e7
          obtain ⟨P, hP⟩ : ∃ P, P = A ^ E % M := ⟨_, rfl⟩
          have HP := Lib.hid hP
          clear hP
          have e1 : digs 1 = [(1 : Int)] := by rw [digs_pos (by omega)]; simp [digs_zero]
          have h1l : (digs 1).length ≤ (digs M).length := by rw [e1]; exact hp
          have hcfW : CF w W W b12 b5 b11 b9 vr vm' vb f (pd (digs M).length N) (digs M) (pd (digs M).length (A2 * X % M)) := ⟨br, bm, bb, hbf9, hr, hm5, hb5, hbel, World.grownBy.refl _ _⟩
          have hDne : some D ≠ some b12 := by
            intro e9
            obtain rfl : D = b12 := by simpa using e9
            have h8 := (show W.heap[D]? = _ from hcfW.br).symm.trans hK
            simp at h8
          have hcf := hcfW.below (Below.refl _ W).drew
          have hcfL : CF w W (W.alloc (.cells #[.int .u32 1] 52)).drew b12 b5 b11 b9 vr vm' vb f (pd (digs M).length N) (digs M) (pd (digs M).length (A2 * X % M)) := hcfW.below (((Below.refl _ W).alloc (Nat.le_refl _) _).drew)
          have hlit : U32s (W.alloc (.cells #[.int .u32 1] 52)).drew 0 (.slice (some ⟨W.heap.size, 0, none⟩) 1 1) (digs 1) := by rw [e1]; exact World.ownsRow.drew (U32s.lit1 W 0 1 (Nat.zero_le _))
          clear e1 br bm bb hr hm5 hb5 hbel hbf9
          go_wp2_with fail
          go_region_held3 (fun w' => w'.cell? ⟨b12, 0, none⟩ = some vr ∧ w'.cell? ⟨b5, 0, none⟩ = some vm' ∧ w'.cell? ⟨b9, 0, none⟩ = some (.int .u32 f)) (first | with_reducible exact ⟨hcf.br.cell, hcf.bm.cell, hcf.bf.cell⟩ | with_reducible exact ⟨hcfL.br.cell, hcfL.bm.cell, hcfL.bf.cell⟩ | go_keep) (first | (go_at_call 75; refine (npad_call 1 (digs M).length _ _ hlit h1l (by omega)).mono ?_; rintro en wA ⟨⟨vA, rfl, hvA⟩, hbA⟩; have q1 := hcfL.below hbA; have hcf := q1; clear q1) | (go_at_call 76; refine (nmont_call M (digs M).length X N 1 (A ^ E) _ _ _ f m0 _ rfl hml HX.out hodd HM0.out.1 hcf.rr (hvA.low (Nat.zero_le _)) hcf.rm hNM hM0 HFM.out (by rw [HN.out]; exact mont_out _ _ _)).mono ?_; rintro en wB ⟨⟨vB, rfl, hvB⟩, hbB⟩; have q1 := hcf.below hbB; have hcf := q1; clear q1; rw [← HP.out] at hvB) | (go_at_call 68; refine (utrim_any (pd (digs M).length P) _ 0 _ (pd_dig _ _) hvB).mono ?_; rw [pd_dv, Int.toNat_natCast]; rintro en wC ⟨⟨vC, rfl, hvC⟩, rfl⟩))
          all_goals go_wp2
          all_goals have hK' : wB.heap[D]? = some (.deferred (some [])) := (hcf.gr.block D (Array.getElem?_eq_some_iff.1 hK).1 hDne).trans hK
          all_goals refine ⟨by simp, .inl ⟨_, _, rfl, run_takeDeferred hK', ?_⟩⟩
          all_goals rw [HP.out] at hvC
          all_goals exact ⟨vC, by simp [results, Tryd.results53, go_sem], ⟨vC, rfl, ownsRow_putObj hvC _ hK' rfl⟩, hcf.bel.trans (belowK_b (w := w) (Nat.le_refl _) wB D _ _ (by have := hof5.bel.size; omega) hK' rfl rfl)⟩
end Go.Proofs.YtjjmfigldhdccaaDoor
