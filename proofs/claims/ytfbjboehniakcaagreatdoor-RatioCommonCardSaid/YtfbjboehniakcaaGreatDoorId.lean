/- Walks of the reference concordref02: Mod, Made, Same; of the law's frac. -/
import Derived.Test.YtfbjboehniakcaaGreatDoorIc
namespace Go.Proofs.YtfbjboehniakcaaGreatDoor
open Go.RowKit W
open Pl (bval enc bv nb bv_nb nb_size_le nb_size_zero nb_size_mono nb_bv_size bv_lt cmpN nb_inj)
open Rq
theorem Sz_int {n : Int} (h0 : -9223372036854775808 ≤ n) (h1 : n ≤ 9223372036854775807) : Sz (n : Rat) 8 := ⟨nbs (by rw [Rat.num_intCast]; omega) (by decide), nbs (by rw [Rat.den_intCast]; decide) (by decide)⟩
theorem Strs.at {w : World} {B : Nat} {v : Value} {l : List ByteArray} (h : Strs w B v l) (k : Nat) (hk : k < l.length) : ∃ g cap, v = .slice (some ⟨g, 0, none⟩) l.length cap ∧ B ≤ g ∧ g < w.heap.size ∧ w.cell? ⟨g, k, none⟩ = some (.string l[k]) := by
  rcases h.2 with ⟨rfl, hn⟩ | ⟨g, cap, cur, rfl, hb, hg, hnc, hcm, hcs, htake⟩
  · omega
  · refine ⟨g, cap, rfl, hb, (Array.getElem?_eq_some_iff.1 hg).1, ?_⟩
    have := h.cells (g := g) rfl k (.string l[k]) (by simp [hk])
    have hadd : (⟨g, 0, none⟩ : Addr).add k = ⟨g, k, none⟩ := by unfold Addr.add; split <;> simp_all
    rwa [hadd] at this
set_option maxRecDepth 100000 in
set_option maxHeartbeats 2000000 in
theorem rmod_any (a m : Int) (w : World) (h0 : 0 < m) (h1 : m ≤ 4611686018427387904) :
    Calls Tryz.prog 14 #[.int .i64 a, .int .i64 m] w fun e w' => e = .returned (.int .i64 (a % m)) ∧ w = w' := by
  have hb := Pl.tmod_bd a h0
  have hm0 : ¬ m = 0 := by omega
  have he := Pl.tmod_emod a m
  have hr : a % m = if a.tmod m < 0 then a.tmod m + m else a.tmod m := by
    split
    · rw [← he, ← Int.add_emod_right, Int.emod_eq_of_lt (by omega) (by omega)]
    · rw [← he, Int.emod_eq_of_lt (by omega) (by omega)]
  have HR := Lib.hid hr
  clear he hr
  generalize hg : a.tmod m = r at *
  go_enter Tryz.func14, Tryz.ntmps14
  by_cases hn : r < 0
  · go_wp2_with fail
    go_ret
    exact ⟨ret_int (by rw [HR.out, if_pos hn]), rfl⟩
  · go_wp2_with fail
    go_ret
    exact ⟨ret_int (by rw [HR.out, if_neg (by omega)]), rfl⟩
set_option maxRecDepth 100000 in
set_option maxHeartbeats 2000000 in
theorem rsame_eq (l : List ByteArray) (va vb : Value) (w : World) (B B' : Nat) (ha : Strs w B va l) (hb : Strs w B' vb l) (hl : l.length ≤ 1000000) :
    Calls Tryz.prog 25 #[va, vb] w fun e w' => e = .returned (.bool true) ∧ Below w.heap.size w w' := by
  obtain ⟨aa, ca, rfl⟩ := ha.form
  obtain ⟨ab, cb, rfl⟩ := hb.form
  have HA := Lib.hid (fun k hk => ha.at k hk)
  have HB := Lib.hid (fun k hk => hb.at k hk)
  clear ha hb
  go_enter Tryz.func25, Tryz.ntmps25
  go_wp2_with fail
  go_loopw [5] (fun i wr => ∃ k : Nat, k ≤ l.length ∧ i = .int .i64 k ∧ Below w.heap.size w wr) (fun i _ => l.length - (intOf i).toNat)
  case atStart => exact ⟨0, by omega, rfl, Below.refl _ _⟩
  case round =>
    obtain ⟨k, hk, rfl, hacc⟩ := hrel
    by_cases hlt : k < l.length
    · obtain ⟨g, c, e, _, hg, hc⟩ := HA.out k hlt
      cases e
      obtain ⟨g', c', e', _, hg', hc'⟩ := HB.out k hlt
      cases e'
      have hk0 : (0 : Int) ≤ (k : Int) := by omega
      have hk1 : (k : Int) < (l.length : Int) := by omega
      have d1 := (hacc.cell (p := ⟨g, k, none⟩) hg).trans hc
      have d2 := (hacc.cell (p := ⟨g', k, none⟩) hg').trans hc'
      clear hc hc'
      generalize l[k] = s at *
      go_upto_region 6 with fail
      go_region_held3 (fun w' => w'.cell? ⟨g, k, none⟩ = some (.string s) ∧ w'.cell? ⟨g', k, none⟩ = some (.string s)) (first | exact ⟨d1, d2⟩ | go_keep) (fail)
      go_wp2_with fail
      go_roundw
      case rel => exact ⟨k + 1, by omega, by go_num, hacc.drew⟩
      case measure => simp [intOf]; omega
    · obtain rfl : k = l.length := by omega
      go_wp2_with fail
      go_ret
      exact ⟨rfl, hacc⟩
set_option maxRecDepth 100000 in
set_option maxHeartbeats 4000000 in
theorem rmade2_any (x y z : Int) (w : World) (hx0 : -9223372036854775808 ≤ x) (hx1 : x ≤ 9223372036854775807) (hy0 : -9223372036854775808 ≤ y) (hy1 : y ≤ 9223372036854775807) :
    Calls Tryz.prog 10 #[.agg #[.int .i64 x, .int .i64 y, .int .i64 z]] w fun e w' => (∃ q : Rat, e = .returned (rv q) ∧ Sz q 24) ∧ Below w.heap.size w w' := by
  have hc : z % 4 = 0 ∨ z % 4 = 1 ∨ z % 4 = 2 ∨ z % 4 = 3 := by omega
  rcases hc with hc | hc | hc | hc
  · skip
    go_enter Tryz.func10, Tryz.ntmps10
    have bQ : Rx ((w.alloc (.cells #[.int .i64 x, .int .i64 y, .int .i64 z] 22)).alloc (.cells #[.bool false, .string ⟨#[]⟩, .string ⟨#[]⟩] 27)) (w.heap.size) [.int .i64 x, .int .i64 y, .int .i64 z] := ((Rx.new w _ rfl [.int .i64 x, .int .i64 y, .int .i64 z] 22).alloc (.cells #[.bool false, .string ⟨#[]⟩, .string ⟨#[]⟩] 27))
    have bR : Rx ((w.alloc (.cells #[.int .i64 x, .int .i64 y, .int .i64 z] 22)).alloc (.cells #[.bool false, .string ⟨#[]⟩, .string ⟨#[]⟩] 27)) (w.heap.size + 1) [.bool false, .string ⟨#[]⟩, .string ⟨#[]⟩] := (Rx.new (w.alloc (.cells #[.int .i64 x, .int .i64 y, .int .i64 z] 22)) _ (by simp) [.bool false, .string ⟨#[]⟩, .string ⟨#[]⟩] 27)
    have hacc := (((Below.refl w.heap.size w).alloc (Nat.le_refl w.heap.size) (.cells #[.int .i64 x, .int .i64 y, .int .i64 z] 22)).alloc (by simp) (.cells #[.bool false, .string ⟨#[]⟩, .string ⟨#[]⟩] 27))
    go_upto_region 1 with fail
    generalize (w.alloc (.cells #[.int .i64 x, .int .i64 y, .int .i64 z] 22)).alloc (.cells #[.bool false, .string ⟨#[]⟩, .string ⟨#[]⟩] 27) = W0 at *
    generalize hgR : w.heap.size + 1 = gR at *
    obtain ⟨gQ, hgQ⟩ : ∃ g, g = w.heap.size := ⟨_, rfl⟩
    rw [← hgQ] at bQ
    simp only [← hgQ]
    have ngQgR : gQ ≠ gR := by omega
    have kgQ : w.heap.size ≤ gQ := by omega
    have kgR : w.heap.size ≤ gR := by omega
    clear hgQ hgR
    have cgQ0 := bQ.at 0 rfl
    have fgQ0 := bQ.fr 0 rfl
    have cgQ1 := bQ.at 1 rfl
    have fgQ1 := bQ.fr 1 rfl
    have cgQ2 := bQ.at 2 rfl
    have fgQ2 := bQ.fr 2 rfl
    go_wp2_with fail
    clear cgQ0 fgQ0 cgQ1 fgQ1 cgQ2 fgQ2
    with_reducible refine (rmod_any (x) 1000 _ (by decide) (by decide)).mono ?_
    rintro e w' ⟨rfl, rfl⟩
    have cgQ0 := bQ.at 0 rfl
    have fgQ0 := bQ.fr 0 rfl
    have cgQ1 := bQ.at 1 rfl
    have fgQ1 := bQ.fr 1 rfl
    have cgQ2 := bQ.at 2 rfl
    have fgQ2 := bQ.fr 2 rfl
    go_wp2_with fail
    clear cgQ0 fgQ0 cgQ1 fgQ1 cgQ2 fgQ2
    with_reducible refine (ofn_any (x % 1000) _ (by omega) (by omega)).mono ?_
    rintro e wZ ⟨rfl, hbX⟩
    have hacc := hacc.trans (hbX.mono hacc.size)
    have bQ := bQ.below hbX
    have bR := bR.below hbX
    clear hbX
    have cgQ0 := bQ.at 0 rfl
    have fgQ0 := bQ.fr 0 rfl
    have cgQ1 := bQ.at 1 rfl
    have fgQ1 := bQ.fr 1 rfl
    have cgQ2 := bQ.at 2 rfl
    have fgQ2 := bQ.fr 2 rfl
    go_wp2_with fail
    clear cgQ0 fgQ0 cgQ1 fgQ1 cgQ2 fgQ2
    with_reducible refine (rmod_any (y) 60 _ (by decide) (by decide)).mono ?_
    rintro e w' ⟨rfl, rfl⟩
    have cgQ0 := bQ.at 0 rfl
    have fgQ0 := bQ.fr 0 rfl
    have cgQ1 := bQ.at 1 rfl
    have fgQ1 := bQ.fr 1 rfl
    have cgQ2 := bQ.at 2 rfl
    have fgQ2 := bQ.fr 2 rfl
    go_wp2_with fail
    clear cgQ0 fgQ0 cgQ1 fgQ1 cgQ2 fgQ2
    with_reducible refine (ofn_any (1 + y % 60) _ (by omega) (by omega)).mono ?_
    rintro e wZ ⟨rfl, hbX⟩
    have hacc := hacc.trans (hbX.mono hacc.size)
    have bQ := bQ.below hbX
    have bR := bR.below hbX
    clear hbX
    have cgQ0 := bQ.at 0 rfl
    have fgQ0 := bQ.fr 0 rfl
    have cgQ1 := bQ.at 1 rfl
    have fgQ1 := bQ.fr 1 rfl
    have cgQ2 := bQ.at 2 rfl
    have fgQ2 := bQ.fr 2 rfl
    go_wp2_with fail
    clear cgQ0 fgQ0 cgQ1 fgQ1 cgQ2 fgQ2
    with_reducible refine (rmod_any z 4 _ (by decide) (by decide)).mono ?_
    rintro e w' ⟨rfl, rfl⟩
    rw [hc]
    have cgQ0 := bQ.at 0 rfl
    have fgQ0 := bQ.fr 0 rfl
    have cgQ1 := bQ.at 1 rfl
    have fgQ1 := bQ.fr 1 rfl
    have cgQ2 := bQ.at 2 rfl
    have fgQ2 := bQ.fr 2 rfl
    have cgQ0 := bQ.at 0 rfl
    have fgQ0 := bQ.fr 0 rfl
    have cgQ1 := bQ.at 1 rfl
    have fgQ1 := bQ.fr 1 rfl
    have cgQ2 := bQ.at 2 rfl
    have fgQ2 := bQ.fr 2 rfl
    have sn : (nb ((x % 1000).toNat)).size ≤ 24 := nbs (by omega) (by decide)
    have sd : (nb ((1 + y % 60).toNat)).size ≤ 24 := nbs (by omega) (by decide)
    have hd : 0 < (1 + y % 60).toNat := by omega
    obtain ⟨q, hq⟩ : ∃ q, mk (decide (x < 0)) ((x % 1000).toNat) ((1 + y % 60).toNat) = q := ⟨_, rfl⟩
    have sq : Sz q 24 := by rw [← hq]; exact Sz_mk hd sn sd
    go_wp2_with fail
    clear cgQ0 fgQ0 cgQ1 fgQ1 cgQ2 fgQ2
    with_reducible refine (rlow_any (decide (x < 0)) ((x % 1000).toNat) ((1 + y % 60).toNat) _ hd (by omega) (by omega)).mono ?_
    rw [hq, rv]
    rintro e wZ ⟨rfl, hbX⟩
    have hacc := hacc.trans (hbX.mono hacc.size)
    have bQ := bQ.below hbX
    have bR := bR.below hbX
    clear hbX
    have cgR0 := bR.at 0 rfl
    have fgR0 := bR.fr 0 rfl
    have cgR1 := bR.at 1 rfl
    have fgR1 := bR.fr 1 rfl
    have cgR2 := bR.at 2 rfl
    have fgR2 := bR.fr 2 rfl
    go_wp2_with fail
    refine bodyPost_ret (v := .agg #[.bool (decide (q.num < 0)), .string (nb q.num.natAbs), .string (nb q.den)]) (by simp [results, Tryz.results10, go_sem, cgR0, cgR1, cgR2]) rfl ⟨⟨q, rfl, sq⟩, (((hacc.setCell kgR _).setCell kgR _).setCell kgR _)⟩
  · skip
    go_enter Tryz.func10, Tryz.ntmps10
    have bQ : Rx ((w.alloc (.cells #[.int .i64 x, .int .i64 y, .int .i64 z] 22)).alloc (.cells #[.bool false, .string ⟨#[]⟩, .string ⟨#[]⟩] 27)) (w.heap.size) [.int .i64 x, .int .i64 y, .int .i64 z] := ((Rx.new w _ rfl [.int .i64 x, .int .i64 y, .int .i64 z] 22).alloc (.cells #[.bool false, .string ⟨#[]⟩, .string ⟨#[]⟩] 27))
    have bR : Rx ((w.alloc (.cells #[.int .i64 x, .int .i64 y, .int .i64 z] 22)).alloc (.cells #[.bool false, .string ⟨#[]⟩, .string ⟨#[]⟩] 27)) (w.heap.size + 1) [.bool false, .string ⟨#[]⟩, .string ⟨#[]⟩] := (Rx.new (w.alloc (.cells #[.int .i64 x, .int .i64 y, .int .i64 z] 22)) _ (by simp) [.bool false, .string ⟨#[]⟩, .string ⟨#[]⟩] 27)
    have hacc := (((Below.refl w.heap.size w).alloc (Nat.le_refl w.heap.size) (.cells #[.int .i64 x, .int .i64 y, .int .i64 z] 22)).alloc (by simp) (.cells #[.bool false, .string ⟨#[]⟩, .string ⟨#[]⟩] 27))
    go_upto_region 1 with fail
    generalize (w.alloc (.cells #[.int .i64 x, .int .i64 y, .int .i64 z] 22)).alloc (.cells #[.bool false, .string ⟨#[]⟩, .string ⟨#[]⟩] 27) = W0 at *
    generalize hgR : w.heap.size + 1 = gR at *
    obtain ⟨gQ, hgQ⟩ : ∃ g, g = w.heap.size := ⟨_, rfl⟩
    rw [← hgQ] at bQ
    simp only [← hgQ]
    have ngQgR : gQ ≠ gR := by omega
    have kgQ : w.heap.size ≤ gQ := by omega
    have kgR : w.heap.size ≤ gR := by omega
    clear hgQ hgR
    have cgQ0 := bQ.at 0 rfl
    have fgQ0 := bQ.fr 0 rfl
    have cgQ1 := bQ.at 1 rfl
    have fgQ1 := bQ.fr 1 rfl
    have cgQ2 := bQ.at 2 rfl
    have fgQ2 := bQ.fr 2 rfl
    go_wp2_with fail
    clear cgQ0 fgQ0 cgQ1 fgQ1 cgQ2 fgQ2
    with_reducible refine (rmod_any (x) 1000 _ (by decide) (by decide)).mono ?_
    rintro e w' ⟨rfl, rfl⟩
    have cgQ0 := bQ.at 0 rfl
    have fgQ0 := bQ.fr 0 rfl
    have cgQ1 := bQ.at 1 rfl
    have fgQ1 := bQ.fr 1 rfl
    have cgQ2 := bQ.at 2 rfl
    have fgQ2 := bQ.fr 2 rfl
    go_wp2_with fail
    clear cgQ0 fgQ0 cgQ1 fgQ1 cgQ2 fgQ2
    with_reducible refine (ofn_any (x % 1000) _ (by omega) (by omega)).mono ?_
    rintro e wZ ⟨rfl, hbX⟩
    have hacc := hacc.trans (hbX.mono hacc.size)
    have bQ := bQ.below hbX
    have bR := bR.below hbX
    clear hbX
    have cgQ0 := bQ.at 0 rfl
    have fgQ0 := bQ.fr 0 rfl
    have cgQ1 := bQ.at 1 rfl
    have fgQ1 := bQ.fr 1 rfl
    have cgQ2 := bQ.at 2 rfl
    have fgQ2 := bQ.fr 2 rfl
    go_wp2_with fail
    clear cgQ0 fgQ0 cgQ1 fgQ1 cgQ2 fgQ2
    with_reducible refine (rmod_any (y) 60 _ (by decide) (by decide)).mono ?_
    rintro e w' ⟨rfl, rfl⟩
    have cgQ0 := bQ.at 0 rfl
    have fgQ0 := bQ.fr 0 rfl
    have cgQ1 := bQ.at 1 rfl
    have fgQ1 := bQ.fr 1 rfl
    have cgQ2 := bQ.at 2 rfl
    have fgQ2 := bQ.fr 2 rfl
    go_wp2_with fail
    clear cgQ0 fgQ0 cgQ1 fgQ1 cgQ2 fgQ2
    with_reducible refine (ofn_any (1 + y % 60) _ (by omega) (by omega)).mono ?_
    rintro e wZ ⟨rfl, hbX⟩
    have hacc := hacc.trans (hbX.mono hacc.size)
    have bQ := bQ.below hbX
    have bR := bR.below hbX
    clear hbX
    have cgQ0 := bQ.at 0 rfl
    have fgQ0 := bQ.fr 0 rfl
    have cgQ1 := bQ.at 1 rfl
    have fgQ1 := bQ.fr 1 rfl
    have cgQ2 := bQ.at 2 rfl
    have fgQ2 := bQ.fr 2 rfl
    go_wp2_with fail
    clear cgQ0 fgQ0 cgQ1 fgQ1 cgQ2 fgQ2
    with_reducible refine (rmod_any z 4 _ (by decide) (by decide)).mono ?_
    rintro e w' ⟨rfl, rfl⟩
    rw [hc]
    have cgQ0 := bQ.at 0 rfl
    have fgQ0 := bQ.fr 0 rfl
    have cgQ1 := bQ.at 1 rfl
    have fgQ1 := bQ.fr 1 rfl
    have cgQ2 := bQ.at 2 rfl
    have fgQ2 := bQ.fr 2 rfl
    go_wp2_with fail
    clear cgQ0 fgQ0 cgQ1 fgQ1 cgQ2 fgQ2
    with_reducible refine (rmod_any (x) 4611686018427387904 _ (by decide) (by decide)).mono ?_
    rintro e w' ⟨rfl, rfl⟩
    have cgQ0 := bQ.at 0 rfl
    have fgQ0 := bQ.fr 0 rfl
    have cgQ1 := bQ.at 1 rfl
    have fgQ1 := bQ.fr 1 rfl
    have cgQ2 := bQ.at 2 rfl
    have fgQ2 := bQ.fr 2 rfl
    go_wp2_with fail
    clear cgQ0 fgQ0 cgQ1 fgQ1 cgQ2 fgQ2
    with_reducible refine (ofn_any (x % 4611686018427387904) _ (by omega) (by omega)).mono ?_
    rintro e wZ ⟨rfl, hbX⟩
    have hacc := hacc.trans (hbX.mono hacc.size)
    have bQ := bQ.below hbX
    have bR := bR.below hbX
    clear hbX
    have cgQ0 := bQ.at 0 rfl
    have fgQ0 := bQ.fr 0 rfl
    have cgQ1 := bQ.at 1 rfl
    have fgQ1 := bQ.fr 1 rfl
    have cgQ2 := bQ.at 2 rfl
    have fgQ2 := bQ.fr 2 rfl
    go_wp2_with fail
    clear cgQ0 fgQ0 cgQ1 fgQ1 cgQ2 fgQ2
    with_reducible refine (rmod_any (y) 4611686018427387904 _ (by decide) (by decide)).mono ?_
    rintro e w' ⟨rfl, rfl⟩
    have cgQ0 := bQ.at 0 rfl
    have fgQ0 := bQ.fr 0 rfl
    have cgQ1 := bQ.at 1 rfl
    have fgQ1 := bQ.fr 1 rfl
    have cgQ2 := bQ.at 2 rfl
    have fgQ2 := bQ.fr 2 rfl
    go_wp2_with fail
    clear cgQ0 fgQ0 cgQ1 fgQ1 cgQ2 fgQ2
    with_reducible refine (ofn_any (1 + y % 4611686018427387904) _ (by omega) (by omega)).mono ?_
    rintro e wZ ⟨rfl, hbX⟩
    have hacc := hacc.trans (hbX.mono hacc.size)
    have bQ := bQ.below hbX
    have bR := bR.below hbX
    clear hbX
    have cgQ0 := bQ.at 0 rfl
    have fgQ0 := bQ.fr 0 rfl
    have cgQ1 := bQ.at 1 rfl
    have fgQ1 := bQ.fr 1 rfl
    have cgQ2 := bQ.at 2 rfl
    have fgQ2 := bQ.fr 2 rfl
    have sn : (nb ((x % 4611686018427387904).toNat)).size ≤ 24 := nbs (by omega) (by decide)
    have sd : (nb ((1 + y % 4611686018427387904).toNat)).size ≤ 24 := nbs (by omega) (by decide)
    have hd : 0 < (1 + y % 4611686018427387904).toNat := by omega
    obtain ⟨q, hq⟩ : ∃ q, mk (decide (x < 0)) ((x % 4611686018427387904).toNat) ((1 + y % 4611686018427387904).toNat) = q := ⟨_, rfl⟩
    have sq : Sz q 24 := by rw [← hq]; exact Sz_mk hd sn sd
    go_wp2_with fail
    clear cgQ0 fgQ0 cgQ1 fgQ1 cgQ2 fgQ2
    with_reducible refine (rlow_any (decide (x < 0)) ((x % 4611686018427387904).toNat) ((1 + y % 4611686018427387904).toNat) _ hd (by omega) (by omega)).mono ?_
    rw [hq, rv]
    rintro e wZ ⟨rfl, hbX⟩
    have hacc := hacc.trans (hbX.mono hacc.size)
    have bQ := bQ.below hbX
    have bR := bR.below hbX
    clear hbX
    have cgR0 := bR.at 0 rfl
    have fgR0 := bR.fr 0 rfl
    have cgR1 := bR.at 1 rfl
    have fgR1 := bR.fr 1 rfl
    have cgR2 := bR.at 2 rfl
    have fgR2 := bR.fr 2 rfl
    go_wp2_with fail
    refine bodyPost_ret (v := .agg #[.bool (decide (q.num < 0)), .string (nb q.num.natAbs), .string (nb q.den)]) (by simp [results, Tryz.results10, go_sem, cgR0, cgR1, cgR2]) rfl ⟨⟨q, rfl, sq⟩, (((hacc.setCell kgR _).setCell kgR _).setCell kgR _)⟩
  · skip
    go_enter Tryz.func10, Tryz.ntmps10
    have bQ : Rx ((w.alloc (.cells #[.int .i64 x, .int .i64 y, .int .i64 z] 22)).alloc (.cells #[.bool false, .string ⟨#[]⟩, .string ⟨#[]⟩] 27)) (w.heap.size) [.int .i64 x, .int .i64 y, .int .i64 z] := ((Rx.new w _ rfl [.int .i64 x, .int .i64 y, .int .i64 z] 22).alloc (.cells #[.bool false, .string ⟨#[]⟩, .string ⟨#[]⟩] 27))
    have bR : Rx ((w.alloc (.cells #[.int .i64 x, .int .i64 y, .int .i64 z] 22)).alloc (.cells #[.bool false, .string ⟨#[]⟩, .string ⟨#[]⟩] 27)) (w.heap.size + 1) [.bool false, .string ⟨#[]⟩, .string ⟨#[]⟩] := (Rx.new (w.alloc (.cells #[.int .i64 x, .int .i64 y, .int .i64 z] 22)) _ (by simp) [.bool false, .string ⟨#[]⟩, .string ⟨#[]⟩] 27)
    have hacc := (((Below.refl w.heap.size w).alloc (Nat.le_refl w.heap.size) (.cells #[.int .i64 x, .int .i64 y, .int .i64 z] 22)).alloc (by simp) (.cells #[.bool false, .string ⟨#[]⟩, .string ⟨#[]⟩] 27))
    go_upto_region 1 with fail
    generalize (w.alloc (.cells #[.int .i64 x, .int .i64 y, .int .i64 z] 22)).alloc (.cells #[.bool false, .string ⟨#[]⟩, .string ⟨#[]⟩] 27) = W0 at *
    generalize hgR : w.heap.size + 1 = gR at *
    obtain ⟨gQ, hgQ⟩ : ∃ g, g = w.heap.size := ⟨_, rfl⟩
    rw [← hgQ] at bQ
    simp only [← hgQ]
    have ngQgR : gQ ≠ gR := by omega
    have kgQ : w.heap.size ≤ gQ := by omega
    have kgR : w.heap.size ≤ gR := by omega
    clear hgQ hgR
    have cgQ0 := bQ.at 0 rfl
    have fgQ0 := bQ.fr 0 rfl
    have cgQ1 := bQ.at 1 rfl
    have fgQ1 := bQ.fr 1 rfl
    have cgQ2 := bQ.at 2 rfl
    have fgQ2 := bQ.fr 2 rfl
    go_wp2_with fail
    clear cgQ0 fgQ0 cgQ1 fgQ1 cgQ2 fgQ2
    with_reducible refine (rmod_any (x) 1000 _ (by decide) (by decide)).mono ?_
    rintro e w' ⟨rfl, rfl⟩
    have cgQ0 := bQ.at 0 rfl
    have fgQ0 := bQ.fr 0 rfl
    have cgQ1 := bQ.at 1 rfl
    have fgQ1 := bQ.fr 1 rfl
    have cgQ2 := bQ.at 2 rfl
    have fgQ2 := bQ.fr 2 rfl
    go_wp2_with fail
    clear cgQ0 fgQ0 cgQ1 fgQ1 cgQ2 fgQ2
    with_reducible refine (ofn_any (x % 1000) _ (by omega) (by omega)).mono ?_
    rintro e wZ ⟨rfl, hbX⟩
    have hacc := hacc.trans (hbX.mono hacc.size)
    have bQ := bQ.below hbX
    have bR := bR.below hbX
    clear hbX
    have cgQ0 := bQ.at 0 rfl
    have fgQ0 := bQ.fr 0 rfl
    have cgQ1 := bQ.at 1 rfl
    have fgQ1 := bQ.fr 1 rfl
    have cgQ2 := bQ.at 2 rfl
    have fgQ2 := bQ.fr 2 rfl
    go_wp2_with fail
    clear cgQ0 fgQ0 cgQ1 fgQ1 cgQ2 fgQ2
    with_reducible refine (rmod_any (y) 60 _ (by decide) (by decide)).mono ?_
    rintro e w' ⟨rfl, rfl⟩
    have cgQ0 := bQ.at 0 rfl
    have fgQ0 := bQ.fr 0 rfl
    have cgQ1 := bQ.at 1 rfl
    have fgQ1 := bQ.fr 1 rfl
    have cgQ2 := bQ.at 2 rfl
    have fgQ2 := bQ.fr 2 rfl
    go_wp2_with fail
    clear cgQ0 fgQ0 cgQ1 fgQ1 cgQ2 fgQ2
    with_reducible refine (ofn_any (1 + y % 60) _ (by omega) (by omega)).mono ?_
    rintro e wZ ⟨rfl, hbX⟩
    have hacc := hacc.trans (hbX.mono hacc.size)
    have bQ := bQ.below hbX
    have bR := bR.below hbX
    clear hbX
    have cgQ0 := bQ.at 0 rfl
    have fgQ0 := bQ.fr 0 rfl
    have cgQ1 := bQ.at 1 rfl
    have fgQ1 := bQ.fr 1 rfl
    have cgQ2 := bQ.at 2 rfl
    have fgQ2 := bQ.fr 2 rfl
    go_wp2_with fail
    clear cgQ0 fgQ0 cgQ1 fgQ1 cgQ2 fgQ2
    with_reducible refine (rmod_any z 4 _ (by decide) (by decide)).mono ?_
    rintro e w' ⟨rfl, rfl⟩
    rw [hc]
    have cgQ0 := bQ.at 0 rfl
    have fgQ0 := bQ.fr 0 rfl
    have cgQ1 := bQ.at 1 rfl
    have fgQ1 := bQ.fr 1 rfl
    have cgQ2 := bQ.at 2 rfl
    have fgQ2 := bQ.fr 2 rfl
    go_upto_region 8 with fail
    clear cgQ0 fgQ0 cgQ1 fgQ1 cgQ2 fgQ2
    have v1 : (nb (x % 4611686018427387904).toNat).size ≤ 8 := nbs (by omega) (by decide)
    have v2 : (nb (y % 4611686018427387904).toNat).size ≤ 8 := nbs (by omega) (by decide)
    have v3 : (nb (1 + y % 4611686018427387904).toNat).size ≤ 8 := nbs (by omega) (by decide)
    have v4 : (nb (1 + x % 2147483648).toNat).size ≤ 8 := nbs (by omega) (by decide)
    have cgQ0 := bQ.at 0 rfl
    have cgQ1 := bQ.at 1 rfl
    have hacc := hacc.drew
    have bQ := bQ.drew
    have bR := bR.drew
    go_region_held3 (fun w' => w'.cell? ⟨gQ, 0, none⟩ = some (.int .i64 x) ∧ w'.cell? ⟨gQ, 1, none⟩ = some (.int .i64 y)) (first | exact ⟨bQ.at 0 rfl, bQ.at 1 rfl⟩ | go_keep) (first | (go_at_call 14; (first | (with_reducible refine (rmod_any x 4611686018427387904 _ (by decide) (by decide)).mono ?_; rintro e wX ⟨rfl, rfl⟩) | (with_reducible refine (rmod_any y 4611686018427387904 _ (by decide) (by decide)).mono ?_; rintro e wX ⟨rfl, rfl⟩))) | (go_at_call 18; (first | (with_reducible refine (ofn_any (x % 4611686018427387904) _ (by omega) (by omega)).mono ?_; rintro e wX ⟨rfl, hbX⟩; have hacc := hacc.trans (hbX.mono hacc.size); have bQ := bQ.below hbX; have bR := bR.below hbX; clear hbX) | (with_reducible refine (ofn_any (y % 4611686018427387904) _ (by omega) (by omega)).mono ?_; rintro e wX ⟨rfl, hbX⟩; have hacc := hacc.trans (hbX.mono hacc.size); have bQ := bQ.below hbX; have bR := bR.below hbX; clear hbX))) | (go_at_call 42; (first | (with_reducible refine (mul_any (nb (x % 4611686018427387904).toNat) (nb (y % 4611686018427387904).toNat) _ (by omega) (by omega)).mono ?_; rw [bv_nb, bv_nb]; rintro e wX ⟨rfl, hbX⟩; have hacc := hacc.trans (hbX.mono hacc.size); have bQ := bQ.below hbX; have bR := bR.below hbX; clear hbX))))
    all_goals
      have cgQ0 := bQ.at 0 rfl
      have fgQ0 := bQ.fr 0 rfl
      have cgQ1 := bQ.at 1 rfl
      have fgQ1 := bQ.fr 1 rfl
      have cgQ2 := bQ.at 2 rfl
      have fgQ2 := bQ.fr 2 rfl
      have q1 : IntKind.i64.wrap (1 + y % 4611686018427387904) = 1 + y % 4611686018427387904 := by rw [IntKind.wrap_i64]; omega
      have q2 : IntKind.i64.wrap (1 + x % 2147483648) = 1 + x % 2147483648 := by rw [IntKind.wrap_i64]; omega
      go_upto_region 9 with fail
      clear cgQ0 fgQ0 cgQ1 fgQ1 cgQ2 fgQ2
      have cgQ0 := bQ.at 0 rfl
      have cgQ1 := bQ.at 1 rfl
      have hacc := hacc.drew
      have bQ := bQ.drew
      have bR := bR.drew
      go_region_held3 (fun w' => w'.cell? ⟨gQ, 0, none⟩ = some (.int .i64 x) ∧ w'.cell? ⟨gQ, 1, none⟩ = some (.int .i64 y)) (first | exact ⟨bQ.at 0 rfl, bQ.at 1 rfl⟩ | go_keep) (first | (go_at_call 14; (first | (with_reducible refine (rmod_any y 4611686018427387904 _ (by decide) (by decide)).mono ?_; rintro e wX ⟨rfl, rfl⟩) | (with_reducible refine (rmod_any x 2147483648 _ (by decide) (by decide)).mono ?_; rintro e wX ⟨rfl, rfl⟩))) | (go_at_call 18; (first | (with_reducible refine (ofn_any (1 + y % 4611686018427387904) _ (by omega) (by omega)).mono ?_; rintro e wX ⟨rfl, hbX⟩; have hacc := hacc.trans (hbX.mono hacc.size); have bQ := bQ.below hbX; have bR := bR.below hbX; clear hbX) | (with_reducible refine (ofn_any (1 + x % 2147483648) _ (by omega) (by omega)).mono ?_; rintro e wX ⟨rfl, hbX⟩; have hacc := hacc.trans (hbX.mono hacc.size); have bQ := bQ.below hbX; have bR := bR.below hbX; clear hbX))) | (go_at_call 42; (first | (with_reducible refine (mul_any (nb (1 + y % 4611686018427387904).toNat) (nb (1 + x % 2147483648).toNat) _ (by omega) (by omega)).mono ?_; rw [bv_nb, bv_nb]; rintro e wX ⟨rfl, hbX⟩; have hacc := hacc.trans (hbX.mono hacc.size); have bQ := bQ.below hbX; have bR := bR.below hbX; clear hbX))))
      all_goals
        have cgQ0 := bQ.at 0 rfl
        have fgQ0 := bQ.fr 0 rfl
        have cgQ1 := bQ.at 1 rfl
        have fgQ1 := bQ.fr 1 rfl
        have cgQ2 := bQ.at 2 rfl
        have fgQ2 := bQ.fr 2 rfl
        have sn : (nb ((x % 4611686018427387904).toNat * (y % 4611686018427387904).toNat)).size ≤ 24 := Nat.le_trans (size_mul v1 v2) (by decide)
        have sd : (nb ((1 + y % 4611686018427387904).toNat * (1 + x % 2147483648).toNat)).size ≤ 24 := Nat.le_trans (size_mul v3 v4) (by decide)
        have hd : 0 < (1 + y % 4611686018427387904).toNat * (1 + x % 2147483648).toNat := by exact Nat.mul_pos (by omega) (by omega)
        obtain ⟨q, hq⟩ : ∃ q, mk (decide (x < 0)) ((x % 4611686018427387904).toNat * (y % 4611686018427387904).toNat) ((1 + y % 4611686018427387904).toNat * (1 + x % 2147483648).toNat) = q := ⟨_, rfl⟩
        have sq : Sz q 24 := by rw [← hq]; exact Sz_mk hd sn sd
        go_wp2_with fail
        clear cgQ0 fgQ0 cgQ1 fgQ1 cgQ2 fgQ2
        with_reducible refine (rlow_any (decide (x < 0)) ((x % 4611686018427387904).toNat * (y % 4611686018427387904).toNat) ((1 + y % 4611686018427387904).toNat * (1 + x % 2147483648).toNat) _ hd (by omega) (by omega)).mono ?_
        rw [hq, rv]
        rintro e wZ ⟨rfl, hbX⟩
        have hacc := hacc.trans (hbX.mono hacc.size)
        have bQ := bQ.below hbX
        have bR := bR.below hbX
        clear hbX
        have cgR0 := bR.at 0 rfl
        have fgR0 := bR.fr 0 rfl
        have cgR1 := bR.at 1 rfl
        have fgR1 := bR.fr 1 rfl
        have cgR2 := bR.at 2 rfl
        have fgR2 := bR.fr 2 rfl
        go_wp2_with fail
        refine bodyPost_ret (v := .agg #[.bool (decide (q.num < 0)), .string (nb q.num.natAbs), .string (nb q.den)]) (by simp [results, Tryz.results10, go_sem, cgR0, cgR1, cgR2]) rfl ⟨⟨q, rfl, sq⟩, (((hacc.setCell kgR _).setCell kgR _).setCell kgR _)⟩
  · skip
    go_enter Tryz.func10, Tryz.ntmps10
    have bQ : Rx ((w.alloc (.cells #[.int .i64 x, .int .i64 y, .int .i64 z] 22)).alloc (.cells #[.bool false, .string ⟨#[]⟩, .string ⟨#[]⟩] 27)) (w.heap.size) [.int .i64 x, .int .i64 y, .int .i64 z] := ((Rx.new w _ rfl [.int .i64 x, .int .i64 y, .int .i64 z] 22).alloc (.cells #[.bool false, .string ⟨#[]⟩, .string ⟨#[]⟩] 27))
    have bR : Rx ((w.alloc (.cells #[.int .i64 x, .int .i64 y, .int .i64 z] 22)).alloc (.cells #[.bool false, .string ⟨#[]⟩, .string ⟨#[]⟩] 27)) (w.heap.size + 1) [.bool false, .string ⟨#[]⟩, .string ⟨#[]⟩] := (Rx.new (w.alloc (.cells #[.int .i64 x, .int .i64 y, .int .i64 z] 22)) _ (by simp) [.bool false, .string ⟨#[]⟩, .string ⟨#[]⟩] 27)
    have hacc := (((Below.refl w.heap.size w).alloc (Nat.le_refl w.heap.size) (.cells #[.int .i64 x, .int .i64 y, .int .i64 z] 22)).alloc (by simp) (.cells #[.bool false, .string ⟨#[]⟩, .string ⟨#[]⟩] 27))
    go_upto_region 1 with fail
    generalize (w.alloc (.cells #[.int .i64 x, .int .i64 y, .int .i64 z] 22)).alloc (.cells #[.bool false, .string ⟨#[]⟩, .string ⟨#[]⟩] 27) = W0 at *
    generalize hgR : w.heap.size + 1 = gR at *
    obtain ⟨gQ, hgQ⟩ : ∃ g, g = w.heap.size := ⟨_, rfl⟩
    rw [← hgQ] at bQ
    simp only [← hgQ]
    have ngQgR : gQ ≠ gR := by omega
    have kgQ : w.heap.size ≤ gQ := by omega
    have kgR : w.heap.size ≤ gR := by omega
    clear hgQ hgR
    have cgQ0 := bQ.at 0 rfl
    have fgQ0 := bQ.fr 0 rfl
    have cgQ1 := bQ.at 1 rfl
    have fgQ1 := bQ.fr 1 rfl
    have cgQ2 := bQ.at 2 rfl
    have fgQ2 := bQ.fr 2 rfl
    go_wp2_with fail
    clear cgQ0 fgQ0 cgQ1 fgQ1 cgQ2 fgQ2
    with_reducible refine (rmod_any (x) 1000 _ (by decide) (by decide)).mono ?_
    rintro e w' ⟨rfl, rfl⟩
    have cgQ0 := bQ.at 0 rfl
    have fgQ0 := bQ.fr 0 rfl
    have cgQ1 := bQ.at 1 rfl
    have fgQ1 := bQ.fr 1 rfl
    have cgQ2 := bQ.at 2 rfl
    have fgQ2 := bQ.fr 2 rfl
    go_wp2_with fail
    clear cgQ0 fgQ0 cgQ1 fgQ1 cgQ2 fgQ2
    with_reducible refine (ofn_any (x % 1000) _ (by omega) (by omega)).mono ?_
    rintro e wZ ⟨rfl, hbX⟩
    have hacc := hacc.trans (hbX.mono hacc.size)
    have bQ := bQ.below hbX
    have bR := bR.below hbX
    clear hbX
    have cgQ0 := bQ.at 0 rfl
    have fgQ0 := bQ.fr 0 rfl
    have cgQ1 := bQ.at 1 rfl
    have fgQ1 := bQ.fr 1 rfl
    have cgQ2 := bQ.at 2 rfl
    have fgQ2 := bQ.fr 2 rfl
    go_wp2_with fail
    clear cgQ0 fgQ0 cgQ1 fgQ1 cgQ2 fgQ2
    with_reducible refine (rmod_any (y) 60 _ (by decide) (by decide)).mono ?_
    rintro e w' ⟨rfl, rfl⟩
    have cgQ0 := bQ.at 0 rfl
    have fgQ0 := bQ.fr 0 rfl
    have cgQ1 := bQ.at 1 rfl
    have fgQ1 := bQ.fr 1 rfl
    have cgQ2 := bQ.at 2 rfl
    have fgQ2 := bQ.fr 2 rfl
    go_wp2_with fail
    clear cgQ0 fgQ0 cgQ1 fgQ1 cgQ2 fgQ2
    with_reducible refine (ofn_any (1 + y % 60) _ (by omega) (by omega)).mono ?_
    rintro e wZ ⟨rfl, hbX⟩
    have hacc := hacc.trans (hbX.mono hacc.size)
    have bQ := bQ.below hbX
    have bR := bR.below hbX
    clear hbX
    have cgQ0 := bQ.at 0 rfl
    have fgQ0 := bQ.fr 0 rfl
    have cgQ1 := bQ.at 1 rfl
    have fgQ1 := bQ.fr 1 rfl
    have cgQ2 := bQ.at 2 rfl
    have fgQ2 := bQ.fr 2 rfl
    go_wp2_with fail
    clear cgQ0 fgQ0 cgQ1 fgQ1 cgQ2 fgQ2
    with_reducible refine (rmod_any z 4 _ (by decide) (by decide)).mono ?_
    rintro e w' ⟨rfl, rfl⟩
    rw [hc]
    have cgQ0 := bQ.at 0 rfl
    have fgQ0 := bQ.fr 0 rfl
    have cgQ1 := bQ.at 1 rfl
    have fgQ1 := bQ.fr 1 rfl
    have cgQ2 := bQ.at 2 rfl
    have fgQ2 := bQ.fr 2 rfl
    go_wp2_with fail
    clear cgQ0 fgQ0 cgQ1 fgQ1 cgQ2 fgQ2
    with_reducible refine (rmod_any (x) 7 _ (by decide) (by decide)).mono ?_
    rintro e w' ⟨rfl, rfl⟩
    have cgQ0 := bQ.at 0 rfl
    have fgQ0 := bQ.fr 0 rfl
    have cgQ1 := bQ.at 1 rfl
    have fgQ1 := bQ.fr 1 rfl
    have cgQ2 := bQ.at 2 rfl
    have fgQ2 := bQ.fr 2 rfl
    go_wp2_with fail
    clear cgQ0 fgQ0 cgQ1 fgQ1 cgQ2 fgQ2
    with_reducible refine (ofn_any (x % 7) _ (by omega) (by omega)).mono ?_
    rintro e wZ ⟨rfl, hbX⟩
    have hacc := hacc.trans (hbX.mono hacc.size)
    have bQ := bQ.below hbX
    have bR := bR.below hbX
    clear hbX
    have cgQ0 := bQ.at 0 rfl
    have fgQ0 := bQ.fr 0 rfl
    have cgQ1 := bQ.at 1 rfl
    have fgQ1 := bQ.fr 1 rfl
    have cgQ2 := bQ.at 2 rfl
    have fgQ2 := bQ.fr 2 rfl
    go_wp2_with fail
    clear cgQ0 fgQ0 cgQ1 fgQ1 cgQ2 fgQ2
    with_reducible refine (rmod_any (y) 7 _ (by decide) (by decide)).mono ?_
    rintro e w' ⟨rfl, rfl⟩
    have cgQ0 := bQ.at 0 rfl
    have fgQ0 := bQ.fr 0 rfl
    have cgQ1 := bQ.at 1 rfl
    have fgQ1 := bQ.fr 1 rfl
    have cgQ2 := bQ.at 2 rfl
    have fgQ2 := bQ.fr 2 rfl
    go_wp2_with fail
    clear cgQ0 fgQ0 cgQ1 fgQ1 cgQ2 fgQ2
    with_reducible refine (ofn_any (1 + y % 7) _ (by omega) (by omega)).mono ?_
    rintro e wZ ⟨rfl, hbX⟩
    have hacc := hacc.trans (hbX.mono hacc.size)
    have bQ := bQ.below hbX
    have bR := bR.below hbX
    clear hbX
    have cgQ0 := bQ.at 0 rfl
    have fgQ0 := bQ.fr 0 rfl
    have cgQ1 := bQ.at 1 rfl
    have fgQ1 := bQ.fr 1 rfl
    have cgQ2 := bQ.at 2 rfl
    have fgQ2 := bQ.fr 2 rfl
    have sn : (nb ((x % 7).toNat)).size ≤ 24 := nbs (by omega) (by decide)
    have sd : (nb ((1 + y % 7).toNat)).size ≤ 24 := nbs (by omega) (by decide)
    have hd : 0 < (1 + y % 7).toNat := by omega
    obtain ⟨q, hq⟩ : ∃ q, mk (decide (x < 0)) ((x % 7).toNat) ((1 + y % 7).toNat) = q := ⟨_, rfl⟩
    have sq : Sz q 24 := by rw [← hq]; exact Sz_mk hd sn sd
    go_wp2_with fail
    clear cgQ0 fgQ0 cgQ1 fgQ1 cgQ2 fgQ2
    with_reducible refine (rlow_any (decide (x < 0)) ((x % 7).toNat) ((1 + y % 7).toNat) _ hd (by omega) (by omega)).mono ?_
    rw [hq, rv]
    rintro e wZ ⟨rfl, hbX⟩
    have hacc := hacc.trans (hbX.mono hacc.size)
    have bQ := bQ.below hbX
    have bR := bR.below hbX
    clear hbX
    have cgR0 := bR.at 0 rfl
    have fgR0 := bR.fr 0 rfl
    have cgR1 := bR.at 1 rfl
    have fgR1 := bR.fr 1 rfl
    have cgR2 := bR.at 2 rfl
    have fgR2 := bR.fr 2 rfl
    go_wp2_with fail
    refine bodyPost_ret (v := .agg #[.bool (decide (q.num < 0)), .string (nb q.num.natAbs), .string (nb q.den)]) (by simp [results, Tryz.results10, go_sem, cgR0, cgR1, cgR2]) rfl ⟨⟨q, rfl, sq⟩, (((hacc.setCell kgR _).setCell kgR _).setCell kgR _)⟩
set_option maxRecDepth 100000 in
set_option maxHeartbeats 4000000 in
theorem frac_any (n d : Int) (w : World) (hn : -1000 ≤ n ∧ n ≤ 1000) (hd : 1 ≤ d ∧ d ≤ 1000) :
    Calls Tryz.prog 41 #[.int .i64 n, .int .i64 d] w fun e w' => e = .returned (rv ((n : Rat) / (d : Rat))) ∧ Below w.heap.size w w' := by
  have sn := Sz_int (n := n) (by omega) (by omega)
  have sd := Sz_int (n := d) (by omega) (by omega)
  have hz : (d : Rat) ≠ 0 := fun e => by have := Rat.intCast_eq_zero_iff.1 e; omega
  have h1 := Lib.hid (fun W => rof2_any n W (by omega) (by omega))
  have h2 := Lib.hid (fun W => rof2_any d W (by omega) (by omega))
  have h3 := Lib.hid (fun W => rquo2_any (n : Rat) (d : Rat) W (sn.mono (by decide)) (sd.mono (by decide)) hz)
  clear sn sd hz
  generalize (n : Rat) / (d : Rat) = q at *
  generalize (n : Rat) = nq at *
  generalize (d : Rat) = dq at *
  simp only [rv] at h1 h2 h3
  unfold rv
  go_enter Tryz.func41, Tryz.ntmps41
  have bR : Rx (w.alloc (.cells #[.bool false, .string ⟨#[]⟩, .string ⟨#[]⟩] 27)) (w.heap.size) [.bool false, .string ⟨#[]⟩, .string ⟨#[]⟩] := (Rx.new w _ rfl [.bool false, .string ⟨#[]⟩, .string ⟨#[]⟩] 27)
  have hacc := ((Below.refl w.heap.size w).alloc (Nat.le_refl w.heap.size) (.cells #[.bool false, .string ⟨#[]⟩, .string ⟨#[]⟩] 27))
  go_upto_region 1 with fail
  generalize w.alloc (.cells #[.bool false, .string ⟨#[]⟩, .string ⟨#[]⟩] 27) = W0 at *
  obtain ⟨gR, hgR⟩ : ∃ g, g = w.heap.size := ⟨_, rfl⟩
  rw [← hgR] at bR
  simp only [← hgR]
  have kgR : w.heap.size ≤ gR := by omega
  clear hgR
  go_wp2_with fail
  with_reducible refine (h1.out _).mono ?_
  rintro e wZ ⟨rfl, hbX⟩
  have hacc := hacc.trans (hbX.mono hacc.size)
  have bR := bR.below hbX
  clear hbX
  go_wp2_with fail
  with_reducible refine (h2.out _).mono ?_
  rintro e wZ ⟨rfl, hbX⟩
  have hacc := hacc.trans (hbX.mono hacc.size)
  have bR := bR.below hbX
  clear hbX
  go_wp2_with fail
  with_reducible refine (h3.out _).mono ?_
  rintro e wZ ⟨rfl, hbX⟩
  have hacc := hacc.trans (hbX.mono hacc.size)
  have bR := bR.below hbX
  clear hbX
  have kgS := hacc.size
  have hacc := hacc.alloc hacc.size (.cells #[.bool (decide (q.num < 0)), .string (nb q.num.natAbs), .string (nb q.den)] 27)
  have dgR := bR.lt
  have bR := bR.alloc (.cells #[.bool (decide (q.num < 0)), .string (nb q.num.natAbs), .string (nb q.den)] 27)
  have bS : Rx (wZ.alloc (.cells #[.bool (decide (q.num < 0)), .string (nb q.num.natAbs), .string (nb q.den)] 27)) wZ.heap.size [.bool (decide (q.num < 0)), .string (nb q.num.natAbs), .string (nb q.den)] := Rx.new wZ _ rfl [.bool (decide (q.num < 0)), .string (nb q.num.natAbs), .string (nb q.den)] 27
  go_upto_region 2 with fail
  generalize wZ.heap.size = gS at *
  generalize wZ.alloc (.cells #[.bool (decide (q.num < 0)), .string (nb q.num.natAbs), .string (nb q.den)] 27) = WgS at *
  have ngRgS : gR ≠ gS := by omega
  clear dgR
  have cgS0 := bS.at 0 rfl
  have fgS0 := bS.fr 0 rfl
  have cgS1 := bS.at 1 rfl
  have fgS1 := bS.fr 1 rfl
  have cgS2 := bS.at 2 rfl
  have fgS2 := bS.fr 2 rfl
  have cgR0 := bR.at 0 rfl
  have fgR0 := bR.fr 0 rfl
  have cgR1 := bR.at 1 rfl
  have fgR1 := bR.fr 1 rfl
  have cgR2 := bR.at 2 rfl
  have fgR2 := bR.fr 2 rfl
  go_wp2_with fail
  refine bodyPost_ret (v := .agg #[.bool (decide (q.num < 0)), .string (nb q.num.natAbs), .string (nb q.den)]) (by simp [results, Tryz.results41, go_sem, cgR0, cgR1, cgR2]) rfl ⟨rfl, (((hacc.setCell kgR _).setCell kgR _).setCell kgR _)⟩
end Go.Proofs.YtfbjboehniakcaaGreatDoor
