/- The walks of NatPows and NatFermat. -/
import Derived.Test.YtjjmfigldhdccaaDoorGa
import Derived.Test.YtjjmfigldhdccaaDoorG3
namespace Go.Proofs.YtjjmfigldhdccaaDoor
open Go.RowKit W
open Pl (bval enc bv nb bv_nb nb_size_le nb_size_zero nb_size_mono nb_bv_size bv_lt cmpN tk tk_zero tk_succ tk_pos)
set_option maxRecDepth 100000 in
theorem conv_at {w W : World} {a : Option Addr} {cap n k : Nat} {l : List UInt8} (h : BysR w (.slice a l.length cap) l) (hb : Below w.heap.size w W) (hk : k ≤ l.length) (dst : TypeId) (hd : Tryd.prog.underlying dst = some .string) :
    (convert 22 dst (.slice a k cap)).run Tryd.prog (W.drewN n) = .ok (.string (cutS l k)) (W.drewN n) := by
  obtain ⟨a', cap', e, _, _, hc⟩ := (h.below (below_drewN hb n)).open
  injection e with e1 e2 e3
  subst e1 e3
  exact hc k hk dst hd
theorem str_nil {s : ByteArray} (h : s.size = 0) : s = ⟨#[]⟩ := Pl.ext_of_data (List.eq_nil_of_length_eq_zero (by rw [list_size]; exact h))
theorem pow_zero_mod {a P : Nat} (h : a % P = 0) (hP : 1 < P) : a ^ (P - 1) % P = 0 := by
  obtain ⟨k, hk⟩ : ∃ k, P - 1 = k + 1 := ⟨P - 2, by omega⟩
  rw [hk, Nat.pow_succ, Nat.mul_mod, h, Nat.mul_zero, Nat.zero_mod]
theorem pow_two_mod (a m n P : Nat) : a ^ m % P * (a ^ n % P) % P = a ^ (m + n) % P := by rw [← Nat.mul_mod, ← Nat.pow_add]
set_option maxRecDepth 100000 in
set_option maxHeartbeats 8000000 in
theorem pows_walk (v0 v1 v2 : Value) (x y z : List UInt8) (w : World) (hx : BysR w v0 x) (hy : BysR w v1 y) (hz : BysR w v2 z) (hG : GT w) :
    Calls Tryd.prog 6 #[v0, v1, v2] w fun e w' => e = .returned (.bool true) ∧ Below w.heap.size w w' := by
  have hacc : Below w.heap.size w w := Below.refl _ _
  go_enter Tryd.func6, Tryd.ntmps6
  go_wp2_with fail
  with_reducible refine (sanity_any _ (hG.below hacc)).mono ?_
  rintro e wZ ⟨rfl, hbX⟩
  have hacc := hacc.trans (hbX.mono hacc.size)
  clear hbX
  go_upto_region 2 with fail
  go_cut [8, 9, 10] (fun s8 s9 s10 wx => s8 = .string (cutS x 24) ∧ s9 = .string (cutS y 12) ∧ s10 = .string (cutS z 24) ∧ Below w.heap.size w wx)
  case first =>
    obtain ⟨a1, c1, rfl, p1, q1, _⟩ := hx.open
    obtain ⟨k1, e1, f1, g1, j1⟩ := cut_min x 24
    have J1 := Lib.hid j1
    simp only [show ((24 : Nat) : Int) = 24 from rfl] at e1
    have r1 := fun n => conv_at (n := n) (k := k1) hx hacc f1
    obtain ⟨a2, c2, rfl, p2, q2, _⟩ := hy.open
    obtain ⟨k2, e2, f2, g2, j2⟩ := cut_min y 12
    have J2 := Lib.hid j2
    simp only [show ((12 : Nat) : Int) = 12 from rfl] at e2
    have r2 := fun n => conv_at (n := n) (k := k2) hy hacc f2
    obtain ⟨a3, c3, rfl, p3, q3, _⟩ := hz.open
    obtain ⟨k3, e3, f3, g3, j3⟩ := cut_min z 24
    have J3 := Lib.hid j3
    simp only [show ((24 : Nat) : Int) = 24 from rfl] at e3
    have r3 := fun n => conv_at (n := n) (k := k3) hz hacc f3
    clear j1 j2 j3 hx hy hz
    go_quiet (fail)
    go_wp2_with fail
    go_meet
    exact ⟨congrArg Value.string J1.out, congrArg Value.string J2.out, congrArg Value.string J3.out, below_drewN hacc _⟩
  case rest =>
    obtain ⟨rfl, rfl, rfl, hacc⟩ := hcut
    have hA := cutS_size x 24
    have hB := cutS_size y 12
    have hC := cutS_size z 24
    generalize cutS x 24 = A at *
    generalize cutS y 12 = B at *
    generalize cutS z 24 = C at *
    have sC1 := add_size (bv_bound hC) (show (nb 1).size ≤ 24 from nbs (by decide) (by decide))
    go_wp2_with fail
    with_reducible refine (add_any C ⟨#[1]⟩ _ (by omega) (by decide)).mono ?_
    rw [bv_1]
    rintro e wZ ⟨rfl, hbX⟩
    have hacc := hacc.trans (hbX.mono hacc.size)
    clear hbX
    have bL : SomeStrs (wZ.alloc (.cells #[.string C, .string (nb (bv C + 1)), .string ⟨#[138, 0, 176, 218, 162, 135, 68, 214, 164, 195, 198, 36, 84, 110, 75, 89]⟩] 24)) wZ.heap.size 3 25 := SomeStrs.newL wZ _ rfl [C, (nb (bv C + 1)), ⟨#[138, 0, 176, 218, 162, 135, 68, 214, 164, 195, 198, 36, 84, 110, 75, 89]⟩] 25 (by simp only [List.forall_mem_cons]; exact ⟨by omega, by omega, by decide, by simp⟩) 24
    have hacc := hacc.alloc hacc.size (.cells #[.string C, .string (nb (bv C + 1)), .string ⟨#[138, 0, 176, 218, 162, 135, 68, 214, 164, 195, 198, 36, 84, 110, 75, 89]⟩] 24)
    go_wp2_with fail
    generalize wZ.heap.size = gL at *
    generalize wZ.alloc (.cells #[.string C, .string (nb (bv C + 1)), .string ⟨#[138, 0, 176, 218, 162, 135, 68, 214, 164, 195, 198, 36, 84, 110, 75, 89]⟩] 24) = WL at *
    go_loopw [41] (fun i wr => ∃ k : Nat, k ≤ 3 ∧ i = .int .i64 k ∧ SomeStrs wr gL 3 25 ∧ Below w.heap.size w wr) (fun i _ => 3 - (intOf i).toNat)
    case atStart => exact ⟨0, by omega, rfl, bL, hacc⟩
    case round =>
      clear bL hacc
      obtain ⟨k, hk, rfl, bL, hacc⟩ := hrel
      by_cases hlt : k < 3
      · have hk0 : (0 : Int) ≤ (k : Int) := by omega
        have hk4 : (k : Int) < 3 := by omega
        obtain ⟨s1, z1, h1⟩ := bL.2 k (by omega)
        go_wp2_with fail
        with_reducible refine (npowT A B _ s1 (by omega) (by omega) (by omega)).mono ?_
        rintro e wZ ⟨rfl, hbX⟩
        have hacc := hacc.trans (hbX.mono hacc.size)
        have bL := bL.below hbX
        clear hbX
        clear h1
        go_wp2_with fail
        with_reducible refine (rpowT A B _ s1 (by omega) (by omega) (by omega)).mono ?_
        rintro e wZ ⟨rfl, hbX⟩
        have hacc := hacc.trans (hbX.mono hacc.size)
        have bL := bL.below hbX
        clear hbX
        go_wp2_with fail
        go_roundw
        case rel => exact ⟨k + 1, by omega, by go_num, bL, hacc⟩
        case measure => simp [intOf]; omega
      · have hk4 : ¬ (k : Int) < 3 := by omega
        go_wp2_with fail
        go_ret
        exact ⟨rfl, hacc⟩
set_option maxRecDepth 100000 in
set_option maxHeartbeats 8000000 in
theorem fermat_walk (v0 v2 : Value) (x z : List UInt8) (e0 e1 : Int) (w : World) (hx : BysR w v0 x) (hz : BysR w v2 z) (a0 : 0 ≤ e0) (a1 : e0 < 4294967296) (b0 : 0 ≤ e1) (b1 : e1 < 4294967296) (hG : GT w) :
    Calls Tryd.prog 10 #[v0, .agg #[.int .u32 e0, .int .u32 e1], v2] w fun e w' => e = .returned (.bool true) ∧ Below w.heap.size w w' := by
  have hacc0 : Below w.heap.size w w := Below.refl _ _
  go_enter Tryd.func10, Tryd.ntmps10
  obtain ⟨n0, rfl⟩ : ∃ n : Nat, e0 = n := ⟨e0.toNat, by omega⟩
  obtain ⟨n1, rfl⟩ : ∃ n : Nat, e1 = n := ⟨e1.toNat, by omega⟩
  have bE : Rw (w.alloc (.cells #[.int .u32 n0, .int .u32 n1] 53)) w.heap.size [.int .u32 n0, .int .u32 n1] := Rw.new w _ rfl [.int .u32 n0, .int .u32 n1] 53
  have hacc := hacc0.alloc (Nat.le_refl _) (.cells #[.int .u32 n0, .int .u32 n1] 53)
  go_upto_region 1 with fail
  generalize hgE : w.heap.size = gE at bE
  generalize w.alloc (.cells #[.int .u32 n0, .int .u32 n1] 53) = WE at *
  have hG2 := hG
  clear hgE
  go_wp2_with fail
  with_reducible refine (sanity_any _ (hG.below hacc)).mono ?_
  rintro e wZ ⟨rfl, hbX⟩
  have hacc := hacc.trans (hbX.mono hacc.size)
  have bE := bE.below hbX
  clear hbX
  go_upto_region 2 with fail
  go_cut [8, 9] (fun s8 s9 wx => s8 = .string (cutS x 24) ∧ s9 = .string (cutS z 24) ∧ Below w.heap.size w wx ∧ Rw wx gE [.int .u32 n0, .int .u32 n1])
  case first =>
    obtain ⟨a1, c1, rfl, p1, q1, _⟩ := hx.open
    obtain ⟨k1, e1, f1, g1, j1⟩ := cut_min x 24
    have J1 := Lib.hid j1
    simp only [show ((24 : Nat) : Int) = 24 from rfl] at e1
    have r1 := fun n => conv_at (n := n) (k := k1) hx hacc f1
    obtain ⟨a2, c2, rfl, p2, q2, _⟩ := hz.open
    obtain ⟨k2, e2, f2, g2, j2⟩ := cut_min z 24
    have J2 := Lib.hid j2
    simp only [show ((24 : Nat) : Int) = 24 from rfl] at e2
    have r2 := fun n => conv_at (n := n) (k := k2) hz hacc f2
    clear j1 j2 hx hz
    go_quiet (fail)
    go_wp2_with fail
    go_meet
    exact ⟨congrArg Value.string J1.out, congrArg Value.string J2.out, below_drewN hacc _, bE.below (below_drewN (Below.refl _ _) _)⟩
  case rest =>
    obtain ⟨rfl, rfl, hacc, bE⟩ := hcut
    have hA := cutS_size x 24
    have hC := cutS_size z 24
    generalize cutS x 24 = A at *
    generalize cutS z 24 = C at *
    have s0 : (nb n0).size ≤ 8 := nbs (by omega) (by decide)
    have s1 : (nb n1).size ≤ 8 := nbs (by omega) (by decide)
    have s01 := add_size s0 s1
    obtain ⟨P, hP⟩ : ∃ P : Nat, P = 2305843009213691579 := ⟨_, rfl⟩
    have t1 := Lib.hid (show (2305843009213691579 : Int).toNat = P by rw [hP]; rfl)
    have t2 := Lib.hid (show (2305843009213691578 : Int).toNat = P - 1 by rw [hP]; rfl)
    have HP := Lib.hid (fun a => Pf.fermat hP a)
    have hPl : P < 256 ^ 8 := by rw [hP]; decide
    have hP1 := Lib.hid (show 1 < P by rw [hP]; decide)
    clear hP
    have sP := nbs hPl (Nat.le_refl 8)
    have sP1 := nbs (show P - 1 < 256 ^ 8 by omega) (Nat.le_refl 8)
    clear hPl
    have hc0 : IntKind.i64.wrap (n0 : Int) = n0 := by rw [IntKind.wrap_i64]; omega
    have hc1 : IntKind.i64.wrap (n1 : Int) = n1 := by rw [IntKind.wrap_i64]; omega
    have x0 := Lib.hid hc0
    have x1 := Lib.hid hc1
    clear hc0 hc1
    have p0 := bE.at 0 rfl
    have p1 := bE.at 1 rfl
    go_upto_region 3 with fail
    have hacc := hacc.drew
    have bE := bE.drew
    go_region_held3 (fun w' => w'.cell? ⟨gE, 0, none⟩ = some (.int .u32 n0) ∧ w'.cell? ⟨gE, 1, none⟩ = some (.int .u32 n1)) (first | exact ⟨bE.at 0 rfl, bE.at 1 rfl⟩ | go_keep) (first | (go_at_call 18; (first | (rw [x0.out]; with_reducible refine (rofT _ (n0 : Int) (by omega)).mono ?_; rw [Int.toNat_natCast]) | (rw [x1.out]; with_reducible refine (rofT _ (n1 : Int) (by omega)).mono ?_; rw [Int.toNat_natCast])); rintro e wX ⟨rfl, hbX⟩; have hacc := hacc.trans (hbX.mono hacc.size); have bE := bE.below hbX; clear hbX))
    clear p0 p1 bE
    all_goals
      have sC := bv_bound hC
      rcases Nat.eq_zero_or_pos (bv C) with h0 | h0
      · have z1 := Lib.hid (fun s t W hs => npow_zero s t C W hs (by omega) h0)
        go_wp2_with fail
        with_reducible refine (z1.out _ _ _ (by omega)).mono ?_
        rintro e wZ ⟨rfl, hbX⟩
        have hacc := hacc.trans (hbX.mono hacc.size)
        clear hbX
        go_wp2_with fail
        with_reducible refine (z1.out _ _ _ (by omega)).mono ?_
        rintro e wZ ⟨rfl, hbX⟩
        have hacc := hacc.trans (hbX.mono hacc.size)
        clear hbX
        go_wp2_with fail
        with_reducible refine (nadd_any (nb n0) (nb n1) _ (by omega) (by omega)).mono ?_
        rw [bv_nb, bv_nb]
        rintro e wZ ⟨rfl, hbX⟩
        have hacc := hacc.trans (hbX.mono hacc.size)
        clear hbX
        go_wp2_with fail
        with_reducible refine (z1.out _ _ _ (by omega)).mono ?_
        rintro e wZ ⟨rfl, hbX⟩
        have hacc := hacc.trans (hbX.mono hacc.size)
        clear hbX
        go_wp2_with fail
        with_reducible refine (nbits_any C _ (by omega)).mono ?_
        rw [h0, bits_0]
        rintro e w' ⟨rfl, rfl⟩
        go_wp2_with fail
        with_reducible refine (rofT _ 2305843009213691579 (by omega)).mono ?_
        rw [t1.out]
        rintro e wZ ⟨rfl, hbX⟩
        have hacc := hacc.trans (hbX.mono hacc.size)
        clear hbX
        go_wp2_with fail
        with_reducible refine (rofT _ 2305843009213691578 (by omega)).mono ?_
        rw [t2.out]
        rintro e wZ ⟨rfl, hbX⟩
        have hacc := hacc.trans (hbX.mono hacc.size)
        clear hbX
        go_wp2_with fail
        with_reducible refine (npow_any A (nb (P - 1)) (nb P) _ (by omega) (by omega) (by omega) (by rw [bv_nb]; have := hP1.out; omega)).mono ?_
        rw [bv_nb, bv_nb]
        rintro e wZ ⟨rfl, hbX⟩
        have hacc := hacc.trans (hbX.mono hacc.size)
        clear hbX
        go_wp2_with fail
        with_reducible refine (nquo_any A (nb P) _ (by omega) (by omega) (by rw [bv_nb]; have := hP1.out; omega)).mono ?_
        rw [bv_nb]
        rintro e wZ ⟨rfl, hbX⟩
        have hacc := hacc.trans (hbX.mono hacc.size)
        clear hbX
        have hM := HP.out (bv A)
        by_cases hz : bv A % P = 0
        · have hz2 := pow_zero_mod hz hP1.out
          rw [hz2, hz, nb_0]
          clear hz2 hz hM
          go_wp2_with fail
          go_ret
          exact ⟨rfl, hacc⟩
        · have hz2 := hM hz
          have hz3 : ¬ nb (bv A % P) = ⟨#[]⟩ := fun e => hz (by have := congrArg bv e; rwa [bv_nb, san_e] at this)
          rw [hz2, nb_1]
          clear hz2 hM hz
          generalize nb (bv A % P) = R at *
          have hne : ¬ R.toList = [] := fun e => hz3 (str_nil (toList_nil.1 e))
          have hem : R.toList.isEmpty = false := by simpa using hne
          clear hz3
          go_wp2_with fail
          go_ret
          exact ⟨rfl, hacc⟩
      · have z1 := Lib.hid (fun s t W hs ht => npow_any s t C W hs ht (by omega) h0)
        have hb := bits_pos h0
        have E1 := Lib.hid (pow_two_mod (bv A) n0 n1 (bv C))
        have q0 : (nb (bv A ^ n0 % bv C)).size ≤ 24 := Nat.le_trans (nb_size_mono (Nat.le_of_lt (Nat.mod_lt _ h0))) sC
        have q1 : (nb (bv A ^ n1 % bv C)).size ≤ 24 := Nat.le_trans (nb_size_mono (Nat.le_of_lt (Nat.mod_lt _ h0))) sC
        have q2 := size_mul q0 q1
        go_wp2_with fail
        with_reducible refine (z1.out A (nb n0) _ (by omega) (by omega)).mono ?_
        rw [bv_nb]
        rintro e wZ ⟨rfl, hbX⟩
        have hacc := hacc.trans (hbX.mono hacc.size)
        clear hbX
        go_wp2_with fail
        with_reducible refine (z1.out A (nb n1) _ (by omega) (by omega)).mono ?_
        rw [bv_nb]
        rintro e wZ ⟨rfl, hbX⟩
        have hacc := hacc.trans (hbX.mono hacc.size)
        clear hbX
        go_wp2_with fail
        with_reducible refine (nadd_any (nb n0) (nb n1) _ (by omega) (by omega)).mono ?_
        rw [bv_nb, bv_nb]
        rintro e wZ ⟨rfl, hbX⟩
        have hacc := hacc.trans (hbX.mono hacc.size)
        clear hbX
        go_wp2_with fail
        with_reducible refine (z1.out A (nb (n0 + n1)) _ (by omega) (by omega)).mono ?_
        rw [bv_nb]
        rintro e wZ ⟨rfl, hbX⟩
        have hacc := hacc.trans (hbX.mono hacc.size)
        clear hbX
        go_wp2_with fail
        with_reducible refine (nbits_any C _ (by omega)).mono ?_
        rintro e w' ⟨rfl, rfl⟩
        go_wp2_with fail
        with_reducible refine (nmul_any (nb (bv A ^ n0 % bv C)) (nb (bv A ^ n1 % bv C)) _ (by omega) (by omega)).mono ?_
        rw [bv_nb, bv_nb]
        rintro e wZ ⟨rfl, hbX⟩
        have hacc := hacc.trans (hbX.mono hacc.size)
        clear hbX
        go_wp2_with fail
        with_reducible refine (nquo_any (nb (bv A ^ n0 % bv C * (bv A ^ n1 % bv C))) C _ (by omega) (by omega) h0).mono ?_
        rw [bv_nb, E1.out]
        rintro e wZ ⟨rfl, hbX⟩
        have hacc := hacc.trans (hbX.mono hacc.size)
        clear hbX
        go_wp2_with fail
        with_reducible refine (rofT _ 2305843009213691579 (by omega)).mono ?_
        rw [t1.out]
        rintro e wZ ⟨rfl, hbX⟩
        have hacc := hacc.trans (hbX.mono hacc.size)
        clear hbX
        go_wp2_with fail
        with_reducible refine (rofT _ 2305843009213691578 (by omega)).mono ?_
        rw [t2.out]
        rintro e wZ ⟨rfl, hbX⟩
        have hacc := hacc.trans (hbX.mono hacc.size)
        clear hbX
        go_wp2_with fail
        with_reducible refine (npow_any A (nb (P - 1)) (nb P) _ (by omega) (by omega) (by omega) (by rw [bv_nb]; have := hP1.out; omega)).mono ?_
        rw [bv_nb, bv_nb]
        rintro e wZ ⟨rfl, hbX⟩
        have hacc := hacc.trans (hbX.mono hacc.size)
        clear hbX
        go_wp2_with fail
        with_reducible refine (nquo_any A (nb P) _ (by omega) (by omega) (by rw [bv_nb]; have := hP1.out; omega)).mono ?_
        rw [bv_nb]
        rintro e wZ ⟨rfl, hbX⟩
        have hacc := hacc.trans (hbX.mono hacc.size)
        clear hbX
        have hM := HP.out (bv A)
        by_cases hz : bv A % P = 0
        · have hz2 := pow_zero_mod hz hP1.out
          rw [hz2, hz, nb_0]
          clear hz2 hz hM
          go_wp2_with fail
          go_ret
          exact ⟨rfl, hacc⟩
        · have hz2 := hM hz
          have hz3 : ¬ nb (bv A % P) = ⟨#[]⟩ := fun e => hz (by have := congrArg bv e; rwa [bv_nb, san_e] at this)
          rw [hz2, nb_1]
          clear hz2 hM hz
          generalize nb (bv A % P) = R at *
          have hne : ¬ R.toList = [] := fun e => hz3 (str_nil (toList_nil.1 e))
          have hem : R.toList.isEmpty = false := by simpa using hne
          clear hz3
          go_wp2_with fail
          go_ret
          exact ⟨rfl, hacc⟩
end Go.Proofs.YtjjmfigldhdccaaDoor
