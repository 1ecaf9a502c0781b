/- The reference's Next. -/
import Derived.Test.YtffijemgcgbjoaaMe
namespace Go.Proofs.Ytffijemgcgbjoaa
open Go.RowKit Nt

/-- 'append(x, y...)' on Copies, y a piece of a row -/
theorem app_cps {w : World} {ops : Array Oper} {rest : List Oper} {o : Oper} {a : Act} {Q : Exit → Act → World → Prop} {s x : Operand} {v : Value} {l l2 : List Wt} {ad : Addr} {n cap : Nat}
    (hgd : o.guard = none)
    (ho : o.op = .call { callee := .builtin .append, args := #[s, x], argTypes := #[65, 65] })
    (hs : a.eval s = v) (hx : a.eval x = .slice (some ad) n cap) (hn : n = l2.length) (B : Nat) (hown : Cps w B v l) (h2 : ∀ j u, (rflat l2)[j]? = some u → w.cell? (ad.add j) = some u)
    (hlen : l.length + l2.length < 1000000000) (hB : B ≤ w.heap.size)
    (h : ∀ v' w', Cps w' B v' (l ++ l2) → w.grownBy w' v.ownBlock → wpList Try.prog ops Q rest (a.put o.dst v') w') : wpList Try.prog ops Q (o :: rest) a w := by
  obtain ⟨i0, hi, hz0, hz1, hz2⟩ := info_parts info_cp
  subst hn
  refine wpList_append_own w hgd s x 65 ho B 77 i0 _ 5 48 Try.underlying65 hi hz0 hz1 hz2 rfl (by decide) v _ _ hs hown ad l2.length cap (rflat l2) hx (rflat_len _) h2 (rflat_one _) (by unfold maxLen; omega) (by omega) hB ?_
  intro v' w' h1 h3 _
  refine h v' w' ?_ h3
  unfold Cps
  rw [List.length_append, rflat_append]
  exact h1
set_option maxHeartbeats 1000000 in
theorem rnext_none (q : Nat) (S : List Nat) (r : RS) (w : World) (h : RefAt w q S r) (hL : r.L = []) :
    Calls Try.prog 20 #[.pointer (some ⟨q, 0, none⟩)] w fun e w' => e = .returned (.tuple #[magg mz, .int .i64 0, .bool false]) ∧ Below w.heap.size w w' := by
  obtain ⟨A, Q, sv, lv, gv, rfl, hc, _⟩ := h
  have hb := (Below.refl w.heap.size w).alloc (Nat.le_refl _) (.cells #[.int .i64 0, .int .i64 0, .string ⟨#[]⟩] 31)
  have c2 := (hc.below hb).row.at 2 rfl
  obtain ⟨a, cap, rfl, _, _⟩ := hc.ls.len
  rw [hL] at c2
  have c2' : (w.alloc (.cells #[.int .i64 0, .int .i64 0, .string ⟨#[]⟩] 31)).cell? ⟨q, 2, none⟩ = some (.slice a 0 cap) := c2
  clear c2
  go_enter Try.func20, Try.ntmps20
  go_wp2
  refine bodyPost_ret (v := .tuple #[magg mz, .int .i64 0, .bool false]) (by simp [results, Try.results20, go_sem]; rfl) rfl ⟨rfl, ?_⟩
  exact hb
theorem rflat_take (l : List Wt) (n j : Nat) (u : Value) (h : (rflat (l.take n))[j]? = some u) : (rflat l)[j]? = some u := by
  have e : rflat l = rflat (l.take n) ++ rflat (l.drop n) := by rw [← rflat_append, List.take_append_drop]
  rw [e, List.getElem?_append_left (List.getElem?_eq_some_iff.1 h).1]; exact h
theorem rflat_drop (l : List Wt) (n j : Nat) (hn : n ≤ l.length) (u : Value) (h : (rflat (l.drop n))[j]? = some u) : (rflat l)[n * 5 + j]? = some u := by
  have e : rflat l = rflat (l.take n) ++ rflat (l.drop n) := by rw [← rflat_append, List.take_append_drop]
  have hl : (rflat (l.take n)).length = n * 5 := by rw [rflat_len, List.length_take]; omega
  rw [e, List.getElem?_append_right (by omega), hl, Nat.add_sub_cancel_left]; exact h
theorem wrap_succ (b n : Nat) (h : b + 1 ≤ n) (hn : n ≤ 80000) : wrap64 ((b : Int) + 1) = ((b + 1 : Nat) : Int) := by
  have : wrap64 ((b : Int) + 1) = (b : Int) + 1 := IntWalk.wrap64_in ((b : Int) + 1) (by omega)
  rw [this]; omega
theorem best_yes {l : List Wt} {k : Nat} (h : lt (at' l (k + 1)) (at' l (best l k))) : best l (k + 1) = k + 1 := by
  unfold best; rw [if_pos (lessB_lt.2 h)]
theorem best_not {l : List Wt} {k : Nat} (h : ¬ lt (at' l (k + 1)) (at' l (best l k))) : best l (k + 1) = best l k := by
  rw [best, if_neg (fun hh => h (lessB_lt.1 hh))]
set_option maxRecDepth 100000 in
set_option maxHeartbeats 4000000 in
theorem rnext_some (q : Nat) (S : List Nat) (r : RS) (w : World) (h : RefAt w q S r) (hL : 0 < r.L.length) (hs : r.sent ≤ 10000) :
    Calls Try.prog 20 #[.pointer (some ⟨q, 0, none⟩)] w fun e w' => e = .returned (.tuple #[magg (Wt.msg (at' r.L r.bst)), .int .i64 (at' r.L r.bst).time, .bool true]) ∧ ∃ S', RefAt w' q S' r.next ∧ Mv S S' w w' := by
  obtain ⟨A, Q, sv, lv, gv, rfl, hc, hsl, hf⟩ := h
  have hb := (Below.refl w.heap.size w).alloc (Nat.le_refl _) (.cells #[.int .i64 0, .int .i64 0, .string ⟨#[]⟩] 31)
  have hbox := Row.new w _ rfl [.int .i64 0, .int .i64 0, .string ⟨#[]⟩] 31
  have hc1 := hc.below hb
  have c2 := hc1.row.at 2 rfl
  have hq : q < w.heap.size := hc.lt q (by simp)
  obtain ⟨g, cap, rfl, _, hgl, hcap, hcm⟩ := hc.ls.form hL
  have HLT0 := Lib.hid hc.lt
  have hz : ((r.L.length : Int) == 0) = false := beq_eq_false_iff_ne.2 (by omega)
  go_enter Try.func20, Try.ntmps20
  go_wp2_with fail
  have hm : Mv (q :: (A ++ Q)) (q :: (A ++ Q)) w (w.alloc (.cells #[.int .i64 0, .int .i64 0, .string ⟨#[]⟩] 31)) := Mv.of_below hb
  have hsz : (w.alloc (.cells #[.int .i64 0, .int .i64 0, .string ⟨#[]⟩] 31)).heap.size = w.heap.size + 1 := by simp
  generalize w.alloc (.cells #[.int .i64 0, .int .i64 0, .string ⟨#[]⟩] 31) = W1 at *
  have HC := Lib.hid hc1
  clear hc1 hb hc
  unfold maxLen at hcm
  go_loopw [5, 6] (fun b k wr => ∃ j : Nat, 1 ≤ j ∧ j ≤ r.L.length ∧ k = .int .i64 (j : Int) ∧ b = .int .i64 (best r.L (j - 1) : Nat) ∧ Below W1.heap.size W1 wr) (fun _ k _ => r.L.length - (intOf k).toNat)
  case atStart => exact ⟨1, by omega, by omega, rfl, rfl, Below.refl _ _⟩
  case round =>
    obtain ⟨j, hj1, hj, rfl, rfl, hb1⟩ := hrel
    have hbl := best_le r.L (j - 1)
    have hc2 := HC.out.below hb1
    have d2 := hc2.row.at 2 rfl
    have hat := fun i j hi hj => hc2.ls.at i j hi hj
    clear c2
    by_cases hlt : j < r.L.length
    · have HY := Lib.hid (fun h => best_yes (l := r.L) (k := j - 1) h)
      have HNo := Lib.hid (fun h => best_not (l := r.L) (k := j - 1) h)
      rw [show j - 1 + 1 = j by omega] at HY HNo
      obtain ⟨bk, hbk⟩ : ∃ bk, bk = best r.L (j - 1) := ⟨_, rfl⟩
      rw [← hbk] at HY HNo hbl ⊢
      have a3 := hat j 3 hlt (by decide)
      have a4 := hat j 4 hlt (by decide)
      have b3 := hat bk 3 (by omega) (by decide)
      have b4 := hat bk 4 (by omega) (by decide)
      clear hat hbk
      simp only [rcells, List.getElem?_cons_succ, List.getElem?_cons_zero] at a3 a4 b3 b4
      have k0 : (0 : Int) ≤ (j : Int) := by omega
      have k1 : (j : Int) < (r.L.length : Int) := by omega
      have k2 : (0 : Int) ≤ (bk : Int) := by omega
      have k3 : (bk : Int) < (r.L.length : Int) := by omega
      unfold lt at HY HNo
      generalize at' r.L j = x at *
      generalize at' r.L bk = y at *
      by_cases h1 : x.time < y.time
      · have g1 : decide (x.time < y.time) = true := by simp [h1]
        have HE := Lib.hid (HY.out (.inl h1))
        clear HY HNo h1
        go_wp2_with fail
        go_quiet (fail)
        go_wp2_with fail
        go_roundw
        case rel => exact ⟨j + 1, by omega, by omega, by go_num, by rw [Nat.add_sub_cancel, HE.out], below_drewN hb1 _⟩
        case measure => simp [intOf]; omega
      · have g1 : decide (x.time < y.time) = false := by simp; omega
        by_cases h2 : x.time = y.time
        · have g2 : (x.time == y.time) = true := by simp [h2]
          by_cases h3 : x.number < y.number
          · have g3 : decide (x.number < y.number) = true := by simp [h3]
            have HE := Lib.hid (HY.out (.inr ⟨h2, h3⟩))
            clear HY HNo h2 h1 h3
            go_wp2_with fail
            go_quiet (fail)
            go_wp2_with fail
            go_roundw
            case rel => exact ⟨j + 1, by omega, by omega, by go_num, by rw [Nat.add_sub_cancel, HE.out], below_drewN hb1 _⟩
            case measure => simp [intOf]; omega
          · have g3 : decide (x.number < y.number) = false := by simp; omega
            have HE := Lib.hid (HNo.out (by omega))
            clear HY HNo h2 h1 h3
            go_wp2_with fail
            go_quiet (fail)
            go_wp2_with fail
            go_roundw
            case rel => exact ⟨j + 1, by omega, by omega, by go_num, by rw [Nat.add_sub_cancel, HE.out], below_drewN hb1 _⟩
            case measure => simp [intOf]; omega
        · have g2 : (x.time == y.time) = false := by simp [h2]
          have HE := Lib.hid (HNo.out (by omega))
          clear HY HNo h2 h1
          go_wp2_with fail
          go_quiet (fail)
          go_wp2_with fail
          go_roundw
          case rel => exact ⟨j + 1, by omega, by omega, by go_num, by rw [Nat.add_sub_cancel, HE.out], below_drewN hb1 _⟩
          case measure => simp [intOf]; omega
    · obtain rfl : j = r.L.length := by omega
      rw [show best r.L (r.L.length - 1) = r.bst from rfl] at hbl ⊢
      have hbst : r.bst < r.L.length := by omega
      have b0 := hat r.bst 0 hbst (by decide)
      have b1 := hat r.bst 1 hbst (by decide)
      have b2 := hat r.bst 2 hbst (by decide)
      have b3 := hat r.bst 3 hbst (by decide)
      have b4 := hat r.bst 4 hbst (by decide)
      simp only [rcells, List.getElem?_cons_succ, List.getElem?_cons_zero, Nat.add_zero] at b0 b1 b2 b3 b4
      have HAT := Lib.hid hat
      clear hat
      generalize hy : at' r.L r.bst = y at *
      have HYY := Lib.hid hy
      clear hy
      have e1 : wr.cell? ⟨g, r.bst * 5 + 1, none⟩ = some (.int .i64 y.to) := b1
      have e2 : wr.cell? ⟨g, r.bst * 5 + 1 + 1, none⟩ = some (.string y.text) := b2
      have e3 : wr.cell? ⟨g, r.bst * 5 + 1 + 1 + 1, none⟩ = some (.int .i64 y.time) := b3
      have e4 : wr.cell? ⟨g, r.bst * 5 + 1 + 1 + 1 + 1, none⟩ = some (.int .i64 y.number) := b4
      clear b1 b2 b3 b4
      have k0 : (0 : Int) ≤ (r.bst : Int) := by omega
      have k1 : (r.bst : Int) < (r.L.length : Int) := by omega
      have hqs := hb1.size
      go_upto_region 11 with fail
      obtain ⟨W2, hW2⟩ : ∃ W2 : World, W2 = wr.alloc (.cells #[.int .i64 y.fr, .int .i64 y.to, .string y.text, .int .i64 y.time, .int .i64 y.number] 77) := ⟨_, rfl⟩
      have hcA : RefC W2 q A Q r sv (.slice (some ⟨g, 0, none⟩) r.L.length cap) gv := by rw [hW2]; exact hc2.below ((Below.refl wr.heap.size wr).alloc (Nat.le_refl _) _)
      have hrowA : Row W2 wr.heap.size [.int .i64 y.fr, .int .i64 y.to, .string y.text, .int .i64 y.time, .int .i64 y.number] := by rw [hW2]; exact Row.new wr _ rfl [.int .i64 y.fr, .int .i64 y.to, .string y.text, .int .i64 y.time, .int .i64 y.number] _
      have hboxA : Row W2 w.heap.size [.int .i64 0, .int .i64 0, .string ⟨#[]⟩] := by rw [hW2]; exact (hbox.below hb1).alloc _
      have hszA : W2.heap.size = wr.heap.size + 1 := by rw [hW2]; simp
      have hmA : Mv (q :: (A ++ Q)) (q :: (A ++ Q)) w W2 := by rw [hW2]; exact hm.trans (Mv.of_below ((Below.refl wr.heap.size wr).alloc (Nat.le_refl _) _) |> (Mv.of_below (hb1)).trans)
      have HCell := Lib.hid (World.ownsRow.cells hcA.ls (g := g) rfl)
      have d2A := hcA.row.at 2 rfl
      have HMv := Lib.hid hmA
      have HCA := Lib.hid hcA
      have HBox := Lib.hid hboxA
      have HRow := Lib.hid hrowA
      clear hcA hrowA hboxA hm hmA
      rw [← hW2]
      clear hW2 b0 e1 e2 e3 e4 d2
      have hNx : r.next = { r with L := r.L.take r.bst ++ r.L.drop (r.bst + 1) } := rfl
      have HNx := Lib.hid hNx
      clear hNx
      generalize hbbe : r.bst = bb at *
      have HBB := Lib.hid hbbe
      clear hbbe
      have HT1 := Lib.hid (show bb = (r.L.take bb).length from by rw [List.length_take]; omega)
      have HT2 := Lib.hid (show r.L.length - (bb + 1) = (r.L.drop (bb + 1)).length from by rw [List.length_drop])
      have HF := Lib.hid (show (r.L.take bb).length + (r.L.drop (bb + 1)).length < 1000000000 from by rw [List.length_take, List.length_drop]; omega)
      have HF1 := Lib.hid (show ([] : List Wt).length + (r.L.take bb).length < 1000000000 from by rw [List.length_take]; simp; omega)
      have HF2 := Lib.hid (show r.L.length ≤ 80000 by omega)
      have HB5 := Lib.hid (show bb + 1 ≤ r.L.length by omega)
      have HLT := Lib.hid (show ∀ k, k ∈ q :: (A ++ Q) → k < w.heap.size from HLT0.out)
      have HLn := Lib.hid (show (r.L.take bb ++ r.L.drop (bb + 1)).length ≤ 8 * r.sent by rw [List.length_append, List.length_take, List.length_drop]; omega)
      have HA := Lib.hid (show cap = bb + 1 → r.L.drop (bb + 1) = [] from fun e => List.drop_eq_nil_of_le (by omega))
      have HN1 := Lib.hid (show w.heap.size < W2.heap.size ∧ wr.heap.size < W2.heap.size ∧ ¬ w.heap.size = wr.heap.size ∧ ¬ q = w.heap.size ∧ ¬ q = wr.heap.size by omega)
      have k2 : (bb : Int) ≤ (cap : Int) := by omega
      have k5 : (bb : Int) ≤ (r.L.length : Int) := by omega
      go_upto_region 12 with (first
        | (at_builtin; refine app_cps (l2 := r.L.take bb) (by rfl) (by rfl) (by rfl) (by rfl) HT1.out W2.heap.size (Cps.nil W2 W2.heap.size) (fun j u hu => HCell.out j u (rflat_take _ _ _ _ hu)) HF1.out (Nat.le_refl _) ?_; intro v3 w3 hv3 hg3; rw [List.nil_append] at hv3; obtain ⟨a3, cap3, hv3e, hv3c, hv3m⟩ := hv3.len; rw [← HT1.out] at hv3e; subst hv3e))
      have hb3 : Below W2.heap.size W2 w3 := (Below.refl _ _).grown hg3 (Nat.le_refl _) (fun k hk => by simp [Value.ownBlock] at hk)
      have d2B := (HCA.out.below hb3).row.at 2 rfl
      have HC3 := Lib.hid (fun j u hu => hg3.cell (HCell.out j u hu) (fun e => by simp [Value.ownBlock] at e))
      have k4 : wrap64 ((bb : Int) + 1) = ((bb + 1 : Nat) : Int) := wrap_succ bb r.L.length HB5.out HF2.out
      have k6 : ((bb + 1 : Nat) : Int) ≤ (r.L.length : Int) := Int.ofNat_le.2 HB5.out
      have HV3 := Lib.hid hv3
      have HB3 := Lib.hid hb3
      have HG1 := Lib.hid (show ∀ j u, (rflat (r.L.drop (bb + 1)))[j]? = some u → w3.cell? (Addr.add ⟨g, (bb + 1) * 5, none⟩ j) = some u from fun j u hu => by have e := HC3.out _ u (rflat_drop _ _ _ HB5.out _ hu); rw [plain_add, Nat.zero_add] at e; rw [plain_add]; exact e)
      have HG2 := Lib.hid (show cap = bb + 1 → ∀ j u, (rflat (r.L.drop (bb + 1)))[j]? = some u → w3.cell? (Addr.add ⟨g, 0, none⟩ j) = some u from fun e j u hu => by rw [HA.out e] at hu; simp [rflat] at hu)
      clear d2A hg3 hv3c hv3m hv3 hb3 k2 k5
      have HI := Lib.hid (And.intro hL (And.intro hs (And.intro hf (And.intro hq (And.intro hsl (And.intro hcap (And.intro hsz hszA)))))))
      have hcm2 : ¬ (9223372036854775807 : Nat) < cap := by omega
      clear hL hs hf hsl hcap hcm hsz hszA hgl hbl hbst hj1 hj hlt k0 k1 hqs
      by_cases hcb : cap = bb + 1
      case' pos =>
        subst hcb
        go_wp2_with (at_builtin; refine app_cps (l2 := r.L.drop (bb + 1)) (by rfl) (by rfl) (by rfl) (by rfl) HT2.out W2.heap.size HV3.out (HG2.out rfl) HF.out HB3.out.size ?_; intro v4 w4 hv4 hg4; obtain ⟨a4, cap4, hv4e, hv4c, hv4m⟩ := hv4.len; obtain ⟨nn, hnn⟩ : ∃ nn, nn = (r.L.take bb ++ r.L.drop (bb + 1)).length := ⟨_, rfl⟩; rw [← hnn] at hv4e; subst hv4e; clear hnn; have hb4 : Below W2.heap.size W2 w4 := HB3.out.grown hg4 HB3.out.size (fun k hk => (HV3.out.lt hk).1); have c4 := (HCA.out.below hb4).row.at 2 rfl; have f4 := (HCA.out.below hb4).row.fr 2 rfl; have HV4 := Lib.hid hv4; have HB4 := Lib.hid hb4; clear hv4 hb4 hg4 hv4c hv4m d2B)
      case' neg =>
        have hcb2 : ¬ bb + 1 = cap := fun e => hcb e.symm
        have hcb3 : ¬ cap - (bb + 1) = 0 := by have := HI.out.2.2.2.2.2.1; have := HB5.out; omega
        go_wp2_with (at_builtin; refine app_cps (l2 := r.L.drop (bb + 1)) (by rfl) (by rfl) (by rfl) (by rfl) HT2.out W2.heap.size HV3.out HG1.out HF.out HB3.out.size ?_; intro v4 w4 hv4 hg4; obtain ⟨a4, cap4, hv4e, hv4c, hv4m⟩ := hv4.len; obtain ⟨nn, hnn⟩ : ∃ nn, nn = (r.L.take bb ++ r.L.drop (bb + 1)).length := ⟨_, rfl⟩; rw [← hnn] at hv4e; subst hv4e; clear hnn; have hb4 : Below W2.heap.size W2 w4 := HB3.out.grown hg4 HB3.out.size (fun k hk => (HV3.out.lt hk).1); have c4 := (HCA.out.below hb4).row.at 2 rfl; have f4 := (HCA.out.below hb4).row.fr 2 rfl; have HV4 := Lib.hid hv4; have HB4 := Lib.hid hb4; clear hv4 hb4 hg4 hv4c hv4m d2B)
      all_goals
        obtain ⟨Q4, hc5, hm5⟩ := rlist_end HCA.out HB4.out HV4.out
        obtain ⟨hn1, hn2, hn3, hn4, hn5⟩ := HN1.out
        have hbx := (HBox.out.below HB4.out).other (p := ⟨q, 2, none⟩) hn4 (.slice a4 nn cap4)
        have hrx := (HRow.out.below HB4.out).other (p := ⟨q, 2, none⟩) hn5 (.slice a4 nn cap4)
        have hs5 : W2.heap.size ≤ (w4.setCell ⟨q, 2, none⟩ (.slice a4 nn cap4)).heap.size := by have := HB4.out.size; simpa using this
        clear c4 f4
        generalize w4.setCell ⟨q, 2, none⟩ (.slice a4 nn cap4) = W5 at *
        have k0 := hbx.at 0 rfl
        have k1 := hbx.at 1 rfl
        have k2 := hbx.at 2 rfl
        have k0f := hbx.fr 0 rfl
        have k1f := hbx.fr 1 rfl
        have k2f := hbx.fr 2 rfl
        have b0 := hrx.at 0 rfl
        have b1 := hrx.at 1 rfl
        have b2 : W5.cell? ⟨wr.heap.size, 1 + 1, none⟩ = _ := hrx.at 2 rfl
        have b3 := hrx.at 3 rfl
        have HE := Lib.hid hc5
        have HM := Lib.hid hm5
        clear hc5 hm5 hz
        go_region
        go_wp2_with fail
        have ho : Only [w.heap.size] W5 (((W5.setCell ⟨w.heap.size, 0, none⟩ (.int .i64 y.fr)).setCell ⟨w.heap.size, 1, none⟩ (.int .i64 y.to)).setCell ⟨w.heap.size, 2, none⟩ (.string y.text)).drew :=
          ((((Only.refl _ _).setCell (by simp) _).setCell (by simp) _).setCell (by simp) _).drew
        have hm := HMv.out.trans HM.out
        have hy := HYY.out
        rw [← HBB.out] at hy
        refine bodyPost_ret (v := .tuple #[magg (Wt.msg y), .int .i64 y.time, .bool true]) (by simp [results, Try.results20, go_sem, k0, k1, k2]; rfl) rfl ⟨by rw [hy], _, ⟨A, Q4, sv, .slice a4 nn cap4, gv, rfl, ?_, ?_, ?_⟩, ?_⟩
        · rw [HNx.out]
          refine HE.out.only ho (fun k hk => ?_)
          simp only [List.mem_singleton]
          rintro rfl
          rcases HM.out.new _ hk with h | h
          · exact absurd (HLT.out _ h) (Nat.lt_irrefl _)
          · exact absurd hn1 (Nat.not_lt.2 h)
        · rw [HNx.out]; exact HI.out.2.2.2.2.1
        · rw [HNx.out]; exact HLn.out
        · exact ⟨hm.only.trans_new ho (fun k hk => .inr (by simp only [List.mem_singleton] at hk; rw [hk]; exact Nat.le_refl _)), hm.new⟩
end Go.Proofs.Ytffijemgcgbjoaa
