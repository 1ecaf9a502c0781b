/- The walk of concordlaw02.sanity. -/
import Derived.Test.YtfbjboehniakcaaGreatDoorId
namespace Go.Proofs.YtfbjboehniakcaaGreatDoor
open Go.RowKit W
open Pl (bval enc bv nb bv_nb nb_size_le nb_size_zero nb_size_mono nb_bv_size bv_lt cmpN nb_inj)
open Rq
theorem rv_lit {q : Rat} {b : Bool} {s t : ByteArray} (h : decide (q.num < 0) = b ∧ nb q.num.natAbs = s ∧ nb q.den = t) : rv q = .agg #[.bool b, .string s, .string t] := by rw [rv, h.1, h.2.1, h.2.2]
theorem fr_1_2 : rv (((1 : Int) : Rat) / ((2 : Int) : Rat)) = .agg #[.bool false, .string ⟨#[1]⟩, .string ⟨#[2]⟩] := rv_lit (by decide +kernel)
theorem fr_m1_4 : rv (((-1 : Int) : Rat) / ((4 : Int) : Rat)) = .agg #[.bool true, .string ⟨#[1]⟩, .string ⟨#[4]⟩] := rv_lit (by decide +kernel)
theorem fr_1_3 : rv (((1 : Int) : Rat) / ((3 : Int) : Rat)) = .agg #[.bool false, .string ⟨#[1]⟩, .string ⟨#[3]⟩] := rv_lit (by decide +kernel)
theorem fr_0_1 : rv (((0 : Int) : Rat) / ((1 : Int) : Rat)) = .agg #[.bool false, .string ⟨#[]⟩, .string ⟨#[1]⟩] := rv_lit (by decide +kernel)
theorem fr_m3_2 : rv (((-3 : Int) : Rat) / ((2 : Int) : Rat)) = .agg #[.bool true, .string ⟨#[3]⟩, .string ⟨#[2]⟩] := rv_lit (by decide +kernel)
theorem fr_m1_3 : rv (((-1 : Int) : Rat) / ((3 : Int) : Rat)) = .agg #[.bool true, .string ⟨#[1]⟩, .string ⟨#[3]⟩] := rv_lit (by decide +kernel)
theorem fr_1_6 : rv (((1 : Int) : Rat) / ((6 : Int) : Rat)) = .agg #[.bool false, .string ⟨#[1]⟩, .string ⟨#[6]⟩] := rv_lit (by decide +kernel)
theorem fr_m2_1 : rv (((-2 : Int) : Rat) / ((1 : Int) : Rat)) = .agg #[.bool true, .string ⟨#[2]⟩, .string ⟨#[1]⟩] := rv_lit (by decide +kernel)
theorem of_6 : nb (6 : Int).toNat = ⟨#[6]⟩ := by decide +kernel
theorem of_4 : nb (4 : Int).toNat = ⟨#[4]⟩ := by decide +kernel
theorem of_3 : nb (3 : Int).toNat = ⟨#[3]⟩ := by decide +kernel
theorem of_2 : nb (2 : Int).toNat = ⟨#[2]⟩ := by decide +kernel
theorem of_1 : nb (1 : Int).toNat = ⟨#[1]⟩ := by decide +kernel
theorem of_0 : nb (0 : Int).toNat = ⟨#[]⟩ := by decide +kernel
theorem mk_64 (w : World) : Calls Tryz.prog 16 #[.bool true, .string ⟨#[6]⟩, .string ⟨#[4]⟩] w fun e w' => e = .returned (.tuple #[.agg #[.bool true, .string ⟨#[3]⟩, .string ⟨#[2]⟩], .bool true]) ∧ Below w.heap.size w w' := by
  have h := amake_ok true ⟨#[6]⟩ ⟨#[4]⟩ w (by decide) (by decide) (by decide +kernel) (by decide +kernel) (by decide)
  rw [show rv (mk true (bv ⟨#[6]⟩) (bv ⟨#[4]⟩)) = .agg #[.bool true, .string ⟨#[3]⟩, .string ⟨#[2]⟩] from rv_lit (by decide +kernel)] at h
  exact h
theorem mk_10 (w : World) : Calls Tryz.prog 16 #[.bool false, .string ⟨#[1]⟩, .string ⟨#[]⟩] w fun e w' => e = .returned (.tuple #[.agg #[.bool false, .string ⟨#[]⟩, .string ⟨#[]⟩], .bool false]) ∧ Below w.heap.size w w' :=
  amake_no false ⟨#[1]⟩ ⟨#[]⟩ w (by decide) (by decide) (.inr (.inr rfl))
theorem sz_lit {q : Rat} {k : Nat} (h : Sz q 8) (hk : 8 ≤ k) : Sz q k := h.mono hk
theorem quo_s (w : World) : Calls Tryz.prog 28 #[.agg #[.bool false, .string ⟨#[1]⟩, .string ⟨#[2]⟩], .agg #[.bool true, .string ⟨#[1]⟩, .string ⟨#[4]⟩]] w fun e w' => e = .returned (.tuple #[.agg #[.bool true, .string ⟨#[2]⟩, .string ⟨#[1]⟩], .bool true]) ∧ Below w.heap.size w w' := by
  have h := aquo_any (((1 : Int) : Rat) / ((2 : Int) : Rat)) (((-1 : Int) : Rat) / ((4 : Int) : Rat)) w ⟨by decide +kernel, by decide +kernel⟩ ⟨by decide +kernel, by decide +kernel⟩ (by decide +kernel)
  rw [fr_1_2, fr_m1_4, show rv (((1 : Int) : Rat) / ((2 : Int) : Rat) / (((-1 : Int) : Rat) / ((4 : Int) : Rat))) = .agg #[.bool true, .string ⟨#[2]⟩, .string ⟨#[1]⟩] from rv_lit (by decide +kernel)] at h
  exact h
theorem add_s (w : World) : Calls Tryz.prog 26 #[.agg #[.bool false, .string ⟨#[1]⟩, .string ⟨#[2]⟩], .agg #[.bool true, .string ⟨#[1]⟩, .string ⟨#[3]⟩]] w fun e w' => e = .returned (.agg #[.bool false, .string ⟨#[1]⟩, .string ⟨#[6]⟩]) ∧ Below w.heap.size w w' := by
  have h := aadd_any (((1 : Int) : Rat) / ((2 : Int) : Rat)) (((-1 : Int) : Rat) / ((3 : Int) : Rat)) w ⟨by decide +kernel, by decide +kernel⟩ ⟨by decide +kernel, by decide +kernel⟩
  rw [fr_1_2, fr_m1_3, show rv (((1 : Int) : Rat) / ((2 : Int) : Rat) + ((-1 : Int) : Rat) / ((3 : Int) : Rat)) = .agg #[.bool false, .string ⟨#[1]⟩, .string ⟨#[6]⟩] from rv_lit (by decide +kernel)] at h
  exact h
theorem par_of (s : ByteArray) (w : World) (hs : s.size ≤ 300000) (h : parR s = none) (hG : GR w) : Calls Tryz.prog 13 #[.string s] w fun e w' => e = .returned (.tuple #[.agg #[.bool false, .string ⟨#[]⟩, .string ⟨#[]⟩], .bool false]) ∧ Below w.heap.size w w' := by
  have h2 := aparse_any s w hs hG
  rw [(parts_of h).1, (parts_of h).2] at h2
  exact h2
theorem par_1 (w : World) (hG : GR w) : Calls Tryz.prog 13 #[.string ⟨#[54, 47, 52]⟩] w fun e w' => e = .returned (.tuple #[.agg #[.bool false, .string ⟨#[]⟩, .string ⟨#[]⟩], .bool false]) ∧ Below w.heap.size w w' := par_of ⟨#[54, 47, 52]⟩ w (by decide) (by decide +kernel) hG
theorem par_2 (w : World) (hG : GR w) : Calls Tryz.prog 13 #[.string ⟨#[45, 48]⟩] w fun e w' => e = .returned (.tuple #[.agg #[.bool false, .string ⟨#[]⟩, .string ⟨#[]⟩], .bool false]) ∧ Below w.heap.size w w' := par_of ⟨#[45, 48]⟩ w (by decide) (by decide +kernel) hG
theorem par_3 (w : World) (hG : GR w) : Calls Tryz.prog 13 #[.string ⟨#[51, 47, 49]⟩] w fun e w' => e = .returned (.tuple #[.agg #[.bool false, .string ⟨#[]⟩, .string ⟨#[]⟩], .bool false]) ∧ Below w.heap.size w w' := par_of ⟨#[51, 47, 49]⟩ w (by decide) (by decide +kernel) hG
theorem txt_s (w : World) (hG : GT w) : Calls Tryz.prog 11 #[.agg #[.bool true, .string ⟨#[3]⟩, .string ⟨#[2]⟩]] w fun e w' => e = .returned (.string ⟨#[45, 51, 47, 50]⟩) ∧ Below w.heap.size w w' := by
  have h := atext_any (((-3 : Int) : Rat) / ((2 : Int) : Rat)) w ⟨by decide +kernel, by decide +kernel⟩ hG
  rw [fr_m3_2, show ratS (((-3 : Int) : Rat) / ((2 : Int) : Rat)) = ⟨#[45, 51, 47, 50]⟩ by decide +kernel] at h
  exact h
theorem com_s (g : Nat) (w : World) (h : Rx w g [.bool false, .string ⟨#[1]⟩, .string ⟨#[2]⟩, .bool false, .string ⟨#[1]⟩, .string ⟨#[3]⟩, .bool false, .string ⟨#[]⟩, .string ⟨#[1]⟩]) : Calls Tryz.prog 23 #[.slice (some ⟨g, 0, none⟩) 3 3] w fun e w' => (∃ vo, e = .returned (.tuple #[.string ⟨#[6]⟩, vo, .bool true]) ∧ Strs w' w.heap.size vo [⟨#[3]⟩, ⟨#[2]⟩, ⟨#[]⟩]) ∧ Below w.heap.size w w' := by
  have hr : RawsR w (.slice (some ⟨g, 0, none⟩) 3 3) [⟨false, ⟨#[1]⟩, ⟨#[2]⟩⟩, ⟨false, ⟨#[1]⟩, ⟨#[3]⟩⟩, ⟨false, ⟨#[]⟩, ⟨#[1]⟩⟩] := by
    refine ⟨_, 3, rfl, fun _ => ⟨g, rfl, h.lt, fun i hi => ?_⟩⟩
    match i, hi with
    | 0, _ => exact ⟨h.at 0 rfl, h.at 1 rfl, h.at 2 rfl⟩
    | 1, _ => exact ⟨h.at 3 rfl, h.at 4 rfl, h.at 5 rfl⟩
    | 2, _ => exact ⟨h.at 6 rfl, h.at 7 rfl, h.at 8 rfl⟩
  have h2 := acommon_any _ _ w hr (by decide) (by simp only [List.forall_mem_cons]; decide)
  have e : comD [⟨false, ⟨#[1]⟩, ⟨#[2]⟩⟩, ⟨false, ⟨#[1]⟩, ⟨#[3]⟩⟩, ⟨false, ⟨#[]⟩, ⟨#[1]⟩⟩] 1 = some 6 := by decide +kernel
  obtain ⟨e1, e2, e3⟩ := com_some e
  rw [e1, e2, e3] at h2
  rw [show nb 6 = ⟨#[6]⟩ by decide +kernel] at h2
  have e4 : ([⟨false, ⟨#[1]⟩, ⟨#[2]⟩⟩, ⟨false, ⟨#[1]⟩, ⟨#[3]⟩⟩, ⟨false, ⟨#[]⟩, ⟨#[1]⟩⟩] : List Raw).map (fun x => nb (bv x.s * (6 / bv x.t))) = [⟨#[3]⟩, ⟨#[2]⟩, ⟨#[]⟩] := by decide +kernel
  rw [e4] at h2
  exact h2
theorem Strs.drew {w : World} {B : Nat} {v : Value} {l : List ByteArray} (h : Strs w B v l) : Strs w.drew B v l := h.below (Below.refl _ _).drew
theorem Strs.lit3 (w : World) (B : Nat) (a b c : ByteArray) (hB : B ≤ w.heap.size) : Strs (w.alloc (.cells #[.string a, .string b, .string c] 25)) B (.slice (some ⟨w.heap.size, 0, none⟩) 3 3) [a, b, c] := World.ownsRow_lit (e := 25) (size := 1) w #[.string a, .string b, .string c] 3 hB (by simp [maxLen]) rfl
set_option maxRecDepth 100000 in
set_option maxHeartbeats 4000000 in
theorem sanity2_any (w : World) (hG : GR w) :
    Calls Tryz.prog 9 #[] w fun e w' => e = .returned (.bool true) ∧ Below w.heap.size w w' := by
  go_enter Tryz.func9, Tryz.ntmps9
  have hacc := (Below.refl w.heap.size w)
  go_upto_region 1 with fail
  go_wp2_with fail
  with_reducible refine (ofn_any 6 _ (by omega) (by omega)).mono ?_
  rw [of_6]
  rintro e wZ ⟨rfl, hbX⟩
  have hacc := hacc.trans (hbX.mono hacc.size)
  clear hbX
  go_wp2_with fail
  with_reducible refine (ofn_any 4 _ (by omega) (by omega)).mono ?_
  rw [of_4]
  rintro e wZ ⟨rfl, hbX⟩
  have hacc := hacc.trans (hbX.mono hacc.size)
  clear hbX
  go_wp2_with fail
  with_reducible refine (mk_64 _).mono ?_
  rintro e wZ ⟨rfl, hbX⟩
  have hacc := hacc.trans (hbX.mono hacc.size)
  clear hbX
  have kgA := hacc.size
  have hacc := hacc.alloc hacc.size (.cells #[.bool true, .string ⟨#[3]⟩, .string ⟨#[2]⟩] 27)
  have bA : Rx (wZ.alloc (.cells #[.bool true, .string ⟨#[3]⟩, .string ⟨#[2]⟩] 27)) wZ.heap.size [.bool true, .string ⟨#[3]⟩, .string ⟨#[2]⟩] := Rx.new wZ _ rfl [.bool true, .string ⟨#[3]⟩, .string ⟨#[2]⟩] 27
  go_upto_region 2 with fail
  generalize wZ.heap.size = gA at *
  generalize wZ.alloc (.cells #[.bool true, .string ⟨#[3]⟩, .string ⟨#[2]⟩] 27) = WgA at *
  go_wp2_with fail
  with_reducible refine (ofn_any 1 _ (by omega) (by omega)).mono ?_
  rw [of_1]
  rintro e wZ ⟨rfl, hbX⟩
  have hacc := hacc.trans (hbX.mono hacc.size)
  have bA := bA.below hbX
  clear hbX
  go_wp2_with fail
  with_reducible refine (ofn_any 0 _ (by omega) (by omega)).mono ?_
  rw [of_0]
  rintro e wZ ⟨rfl, hbX⟩
  have hacc := hacc.trans (hbX.mono hacc.size)
  have bA := bA.below hbX
  clear hbX
  go_wp2_with fail
  with_reducible refine (mk_10 _).mono ?_
  rintro e wZ ⟨rfl, hbX⟩
  have hacc := hacc.trans (hbX.mono hacc.size)
  have bA := bA.below hbX
  clear hbX
  have kgB := hacc.size
  have hacc := hacc.alloc hacc.size (.cells #[.bool false, .string ⟨#[]⟩, .string ⟨#[]⟩] 27)
  have dgA := bA.lt
  have bA := bA.alloc (.cells #[.bool false, .string ⟨#[]⟩, .string ⟨#[]⟩] 27)
  have bB : Rx (wZ.alloc (.cells #[.bool false, .string ⟨#[]⟩, .string ⟨#[]⟩] 27)) wZ.heap.size [.bool false, .string ⟨#[]⟩, .string ⟨#[]⟩] := Rx.new wZ _ rfl [.bool false, .string ⟨#[]⟩, .string ⟨#[]⟩] 27
  go_upto_region 3 with fail
  generalize wZ.heap.size = gB at *
  generalize wZ.alloc (.cells #[.bool false, .string ⟨#[]⟩, .string ⟨#[]⟩] 27) = WgB at *
  have ngAgB : gA ≠ gB := by omega
  clear dgA
  go_wp2_with fail
  with_reducible refine (frac_any 1 2 _ (by decide) (by decide)).mono ?_
  rw [fr_1_2]
  rintro e wZ ⟨rfl, hbX⟩
  have hacc := hacc.trans (hbX.mono hacc.size)
  have bA := bA.below hbX
  have bB := bB.below hbX
  clear hbX
  go_wp2_with fail
  with_reducible refine (frac_any (-1) 4 _ (by decide) (by decide)).mono ?_
  rw [fr_m1_4]
  rintro e wZ ⟨rfl, hbX⟩
  have hacc := hacc.trans (hbX.mono hacc.size)
  have bA := bA.below hbX
  have bB := bB.below hbX
  clear hbX
  go_wp2_with fail
  with_reducible refine (quo_s _).mono ?_
  rintro e wZ ⟨rfl, hbX⟩
  have hacc := hacc.trans (hbX.mono hacc.size)
  have bA := bA.below hbX
  have bB := bB.below hbX
  clear hbX
  have kgC := hacc.size
  have hacc := hacc.alloc hacc.size (.cells #[.bool true, .string ⟨#[2]⟩, .string ⟨#[1]⟩] 27)
  have dgA := bA.lt
  have dgB := bB.lt
  have bA := bA.alloc (.cells #[.bool true, .string ⟨#[2]⟩, .string ⟨#[1]⟩] 27)
  have bB := bB.alloc (.cells #[.bool true, .string ⟨#[2]⟩, .string ⟨#[1]⟩] 27)
  have bC : Rx (wZ.alloc (.cells #[.bool true, .string ⟨#[2]⟩, .string ⟨#[1]⟩] 27)) wZ.heap.size [.bool true, .string ⟨#[2]⟩, .string ⟨#[1]⟩] := Rx.new wZ _ rfl [.bool true, .string ⟨#[2]⟩, .string ⟨#[1]⟩] 27
  go_upto_region 4 with fail
  generalize wZ.heap.size = gC at *
  generalize wZ.alloc (.cells #[.bool true, .string ⟨#[2]⟩, .string ⟨#[1]⟩] 27) = WgC at *
  have ngAgC : gA ≠ gC := by omega
  have ngBgC : gB ≠ gC := by omega
  clear dgA dgB
  go_wp2_with fail
  with_reducible refine (frac_any 1 2 _ (by decide) (by decide)).mono ?_
  rw [fr_1_2]
  rintro e wZ ⟨rfl, hbX⟩
  have hacc := hacc.trans (hbX.mono hacc.size)
  have bA := bA.below hbX
  have bB := bB.below hbX
  have bC := bC.below hbX
  clear hbX
  go_wp2_with fail
  with_reducible refine (frac_any 1 3 _ (by decide) (by decide)).mono ?_
  rw [fr_1_3]
  rintro e wZ ⟨rfl, hbX⟩
  have hacc := hacc.trans (hbX.mono hacc.size)
  have bA := bA.below hbX
  have bB := bB.below hbX
  have bC := bC.below hbX
  clear hbX
  go_wp2_with fail
  with_reducible refine (frac_any 0 1 _ (by decide) (by decide)).mono ?_
  rw [fr_0_1]
  rintro e wZ ⟨rfl, hbX⟩
  have hacc := hacc.trans (hbX.mono hacc.size)
  have bA := bA.below hbX
  have bB := bB.below hbX
  have bC := bC.below hbX
  clear hbX
  have kgL := hacc.size
  have hacc := hacc.alloc hacc.size (.cells #[.bool false, .string ⟨#[1]⟩, .string ⟨#[2]⟩, .bool false, .string ⟨#[1]⟩, .string ⟨#[3]⟩, .bool false, .string ⟨#[]⟩, .string ⟨#[1]⟩] 27)
  have dgA := bA.lt
  have dgB := bB.lt
  have dgC := bC.lt
  have bA := bA.alloc (.cells #[.bool false, .string ⟨#[1]⟩, .string ⟨#[2]⟩, .bool false, .string ⟨#[1]⟩, .string ⟨#[3]⟩, .bool false, .string ⟨#[]⟩, .string ⟨#[1]⟩] 27)
  have bB := bB.alloc (.cells #[.bool false, .string ⟨#[1]⟩, .string ⟨#[2]⟩, .bool false, .string ⟨#[1]⟩, .string ⟨#[3]⟩, .bool false, .string ⟨#[]⟩, .string ⟨#[1]⟩] 27)
  have bC := bC.alloc (.cells #[.bool false, .string ⟨#[1]⟩, .string ⟨#[2]⟩, .bool false, .string ⟨#[1]⟩, .string ⟨#[3]⟩, .bool false, .string ⟨#[]⟩, .string ⟨#[1]⟩] 27)
  have bL : Rx (wZ.alloc (.cells #[.bool false, .string ⟨#[1]⟩, .string ⟨#[2]⟩, .bool false, .string ⟨#[1]⟩, .string ⟨#[3]⟩, .bool false, .string ⟨#[]⟩, .string ⟨#[1]⟩] 27)) wZ.heap.size [.bool false, .string ⟨#[1]⟩, .string ⟨#[2]⟩, .bool false, .string ⟨#[1]⟩, .string ⟨#[3]⟩, .bool false, .string ⟨#[]⟩, .string ⟨#[1]⟩] := Rx.new wZ _ rfl [.bool false, .string ⟨#[1]⟩, .string ⟨#[2]⟩, .bool false, .string ⟨#[1]⟩, .string ⟨#[3]⟩, .bool false, .string ⟨#[]⟩, .string ⟨#[1]⟩] 27
  go_wp2_with fail
  generalize wZ.heap.size = gL at *
  generalize wZ.alloc (.cells #[.bool false, .string ⟨#[1]⟩, .string ⟨#[2]⟩, .bool false, .string ⟨#[1]⟩, .string ⟨#[3]⟩, .bool false, .string ⟨#[]⟩, .string ⟨#[1]⟩] 27) = WgL at *
  have ngAgL : gA ≠ gL := by omega
  have ngBgL : gB ≠ gL := by omega
  have ngCgL : gC ≠ gL := by omega
  clear dgA dgB dgC
  go_wp2_with fail
  with_reducible refine (com_s gL _ bL).mono ?_
  rintro e wZ ⟨⟨vo, rfl, hS⟩, hbX⟩
  have hacc := hacc.trans (hbX.mono hacc.size)
  have bA := bA.below hbX
  have bB := bB.below hbX
  have bC := bC.below hbX
  have bL := bL.below hbX
  clear hbX
  go_upto_region 5 with fail
  go_wp2_with fail
  with_reducible refine (par_1 _ (hG.below hacc)).mono ?_
  rintro e wZ ⟨rfl, hbX⟩
  have hacc := hacc.trans (hbX.mono hacc.size)
  have bA := bA.below hbX
  have bB := bB.below hbX
  have bC := bC.below hbX
  have bL := bL.below hbX
  have hS := hS.below hbX
  clear hbX
  have hS := hS.alloc (.cells #[.bool false, .string ⟨#[]⟩, .string ⟨#[]⟩] 27)
  have kgD := hacc.size
  have hacc := hacc.alloc hacc.size (.cells #[.bool false, .string ⟨#[]⟩, .string ⟨#[]⟩] 27)
  have dgA := bA.lt
  have dgB := bB.lt
  have dgC := bC.lt
  have dgL := bL.lt
  have bA := bA.alloc (.cells #[.bool false, .string ⟨#[]⟩, .string ⟨#[]⟩] 27)
  have bB := bB.alloc (.cells #[.bool false, .string ⟨#[]⟩, .string ⟨#[]⟩] 27)
  have bC := bC.alloc (.cells #[.bool false, .string ⟨#[]⟩, .string ⟨#[]⟩] 27)
  have bL := bL.alloc (.cells #[.bool false, .string ⟨#[]⟩, .string ⟨#[]⟩] 27)
  have bD : Rx (wZ.alloc (.cells #[.bool false, .string ⟨#[]⟩, .string ⟨#[]⟩] 27)) wZ.heap.size [.bool false, .string ⟨#[]⟩, .string ⟨#[]⟩] := Rx.new wZ _ rfl [.bool false, .string ⟨#[]⟩, .string ⟨#[]⟩] 27
  go_upto_region 6 with fail
  generalize wZ.heap.size = gD at *
  generalize wZ.alloc (.cells #[.bool false, .string ⟨#[]⟩, .string ⟨#[]⟩] 27) = WgD at *
  have ngAgD : gA ≠ gD := by omega
  have ngBgD : gB ≠ gD := by omega
  have ngCgD : gC ≠ gD := by omega
  have ngLgD : gL ≠ gD := by omega
  clear dgA dgB dgC dgL
  go_wp2_with fail
  with_reducible refine (par_2 _ (hG.below hacc)).mono ?_
  rintro e wZ ⟨rfl, hbX⟩
  have hacc := hacc.trans (hbX.mono hacc.size)
  have bA := bA.below hbX
  have bB := bB.below hbX
  have bC := bC.below hbX
  have bL := bL.below hbX
  have bD := bD.below hbX
  have hS := hS.below hbX
  clear hbX
  have hS := hS.alloc (.cells #[.bool false, .string ⟨#[]⟩, .string ⟨#[]⟩] 27)
  have kgE := hacc.size
  have hacc := hacc.alloc hacc.size (.cells #[.bool false, .string ⟨#[]⟩, .string ⟨#[]⟩] 27)
  have dgA := bA.lt
  have dgB := bB.lt
  have dgC := bC.lt
  have dgL := bL.lt
  have dgD := bD.lt
  have bA := bA.alloc (.cells #[.bool false, .string ⟨#[]⟩, .string ⟨#[]⟩] 27)
  have bB := bB.alloc (.cells #[.bool false, .string ⟨#[]⟩, .string ⟨#[]⟩] 27)
  have bC := bC.alloc (.cells #[.bool false, .string ⟨#[]⟩, .string ⟨#[]⟩] 27)
  have bL := bL.alloc (.cells #[.bool false, .string ⟨#[]⟩, .string ⟨#[]⟩] 27)
  have bD := bD.alloc (.cells #[.bool false, .string ⟨#[]⟩, .string ⟨#[]⟩] 27)
  have bE : Rx (wZ.alloc (.cells #[.bool false, .string ⟨#[]⟩, .string ⟨#[]⟩] 27)) wZ.heap.size [.bool false, .string ⟨#[]⟩, .string ⟨#[]⟩] := Rx.new wZ _ rfl [.bool false, .string ⟨#[]⟩, .string ⟨#[]⟩] 27
  go_upto_region 7 with fail
  generalize wZ.heap.size = gE at *
  generalize wZ.alloc (.cells #[.bool false, .string ⟨#[]⟩, .string ⟨#[]⟩] 27) = WgE at *
  have ngAgE : gA ≠ gE := by omega
  have ngBgE : gB ≠ gE := by omega
  have ngCgE : gC ≠ gE := by omega
  have ngLgE : gL ≠ gE := by omega
  have ngDgE : gD ≠ gE := by omega
  clear dgA dgB dgC dgL dgD
  go_wp2_with fail
  with_reducible refine (par_3 _ (hG.below hacc)).mono ?_
  rintro e wZ ⟨rfl, hbX⟩
  have hacc := hacc.trans (hbX.mono hacc.size)
  have bA := bA.below hbX
  have bB := bB.below hbX
  have bC := bC.below hbX
  have bL := bL.below hbX
  have bD := bD.below hbX
  have bE := bE.below hbX
  have hS := hS.below hbX
  clear hbX
  have hS := hS.alloc (.cells #[.bool false, .string ⟨#[]⟩, .string ⟨#[]⟩] 27)
  have kgF := hacc.size
  have hacc := hacc.alloc hacc.size (.cells #[.bool false, .string ⟨#[]⟩, .string ⟨#[]⟩] 27)
  have dgA := bA.lt
  have dgB := bB.lt
  have dgC := bC.lt
  have dgL := bL.lt
  have dgD := bD.lt
  have dgE := bE.lt
  have bA := bA.alloc (.cells #[.bool false, .string ⟨#[]⟩, .string ⟨#[]⟩] 27)
  have bB := bB.alloc (.cells #[.bool false, .string ⟨#[]⟩, .string ⟨#[]⟩] 27)
  have bC := bC.alloc (.cells #[.bool false, .string ⟨#[]⟩, .string ⟨#[]⟩] 27)
  have bL := bL.alloc (.cells #[.bool false, .string ⟨#[]⟩, .string ⟨#[]⟩] 27)
  have bD := bD.alloc (.cells #[.bool false, .string ⟨#[]⟩, .string ⟨#[]⟩] 27)
  have bE := bE.alloc (.cells #[.bool false, .string ⟨#[]⟩, .string ⟨#[]⟩] 27)
  have bF : Rx (wZ.alloc (.cells #[.bool false, .string ⟨#[]⟩, .string ⟨#[]⟩] 27)) wZ.heap.size [.bool false, .string ⟨#[]⟩, .string ⟨#[]⟩] := Rx.new wZ _ rfl [.bool false, .string ⟨#[]⟩, .string ⟨#[]⟩] 27
  go_upto_region 8 with fail
  generalize wZ.heap.size = gF at *
  generalize wZ.alloc (.cells #[.bool false, .string ⟨#[]⟩, .string ⟨#[]⟩] 27) = WgF at *
  have ngAgF : gA ≠ gF := by omega
  have ngBgF : gB ≠ gF := by omega
  have ngCgF : gC ≠ gF := by omega
  have ngLgF : gL ≠ gF := by omega
  have ngDgF : gD ≠ gF := by omega
  have ngEgF : gE ≠ gF := by omega
  clear dgA dgB dgC dgL dgD dgE
  clear bB bD bE bF bL
  have cgA0 := bA.at 0 rfl
  have cgA1 := bA.at 1 rfl
  have cgA2 := bA.at 2 rfl
  have cgC0 := bC.at 0 rfl
  have cgC1 := bC.at 1 rfl
  have cgC2 := bC.at 2 rfl
  have hacc := hacc.drew
  have hS := hS.drew
  have bA := bA.drew
  have bC := bC.drew
  go_region_held3 (fun w' => w'.cell? ⟨gA, 0, none⟩ = some (.bool true) ∧ w'.cell? ⟨gA, 1, none⟩ = some (.string ⟨#[3]⟩) ∧ w'.cell? ⟨gA, 2, none⟩ = some (.string ⟨#[2]⟩) ∧ w'.cell? ⟨gC, 0, none⟩ = some (.bool true) ∧ w'.cell? ⟨gC, 1, none⟩ = some (.string ⟨#[2]⟩) ∧ w'.cell? ⟨gC, 2, none⟩ = some (.string ⟨#[1]⟩)) (first | with_reducible exact ⟨bA.at 0 rfl, bA.at 1 rfl, bA.at 2 rfl, bC.at 0 rfl, bC.at 1 rfl, bC.at 2 rfl⟩ | go_keep) (first | (go_at_call 41; (first | (with_reducible refine (frac_any (-3) 2 _ (by decide) (by decide)).mono ?_; rw [fr_m3_2]; rintro e wX ⟨rfl, hbX⟩; have hacc := hacc.trans (hbX.mono hacc.size); have hS := hS.below hbX; have bA := bA.below hbX; have bC := bC.below hbX; clear hbX) | (with_reducible refine (frac_any 1 2 _ (by decide) (by decide)).mono ?_; rw [fr_1_2]; rintro e wX ⟨rfl, hbX⟩; have hacc := hacc.trans (hbX.mono hacc.size); have hS := hS.below hbX; have bA := bA.below hbX; have bC := bC.below hbX; clear hbX) | (with_reducible refine (frac_any (-1) 3 _ (by decide) (by decide)).mono ?_; rw [fr_m1_3]; rintro e wX ⟨rfl, hbX⟩; have hacc := hacc.trans (hbX.mono hacc.size); have hS := hS.below hbX; have bA := bA.below hbX; have bC := bC.below hbX; clear hbX) | (with_reducible refine (frac_any 1 6 _ (by decide) (by decide)).mono ?_; rw [fr_1_6]; rintro e wX ⟨rfl, hbX⟩; have hacc := hacc.trans (hbX.mono hacc.size); have hS := hS.below hbX; have bA := bA.below hbX; have bC := bC.below hbX; clear hbX) | (with_reducible refine (frac_any (-2) 1 _ (by decide) (by decide)).mono ?_; rw [fr_m2_1]; rintro e wX ⟨rfl, hbX⟩; have hacc := hacc.trans (hbX.mono hacc.size); have hS := hS.below hbX; have bA := bA.below hbX; have bC := bC.below hbX; clear hbX))) | (go_at_call 26; (first | (with_reducible refine (add_s _).mono ?_; rintro e wX ⟨rfl, hbX⟩; have hacc := hacc.trans (hbX.mono hacc.size); have hS := hS.below hbX; have bA := bA.below hbX; have bC := bC.below hbX; clear hbX))))
  all_goals
    clear bA bC
    go_wp2_with fail
    with_reducible refine (ofn_any 6 _ (by omega) (by omega)).mono ?_
    rw [of_6]
    rintro e wZ ⟨rfl, hbX⟩
    have hacc := hacc.trans (hbX.mono hacc.size)
    have hS := hS.below hbX
    clear hbX
    go_wp2_with fail
    with_reducible refine (ofn_any 3 _ (by omega) (by omega)).mono ?_
    rw [of_3]
    rintro e wZ ⟨rfl, hbX⟩
    have hacc := hacc.trans (hbX.mono hacc.size)
    have hS := hS.below hbX
    clear hbX
    go_wp2_with fail
    with_reducible refine (ofn_any 2 _ (by omega) (by omega)).mono ?_
    rw [of_2]
    rintro e wZ ⟨rfl, hbX⟩
    have hacc := hacc.trans (hbX.mono hacc.size)
    have hS := hS.below hbX
    clear hbX
    go_wp2_with fail
    with_reducible refine (ofn_any 0 _ (by omega) (by omega)).mono ?_
    rw [of_0]
    rintro e wZ ⟨rfl, hbX⟩
    have hacc := hacc.trans (hbX.mono hacc.size)
    have hS := hS.below hbX
    clear hbX
    have hT := Strs.lit3 wZ w.heap.size ⟨#[3]⟩ ⟨#[2]⟩ ⟨#[]⟩ hacc.size
    have hS := hS.alloc (.cells #[.string ⟨#[3]⟩, .string ⟨#[2]⟩, .string ⟨#[]⟩] 25)
    have hacc := hacc.alloc hacc.size (.cells #[.string ⟨#[3]⟩, .string ⟨#[2]⟩, .string ⟨#[]⟩] 25)
    go_wp2_with fail
    with_reducible refine (rsame_eq _ _ _ _ _ _ hS hT (by decide)).mono ?_
    rintro e wZ ⟨rfl, hbX⟩
    have hacc := hacc.trans (hbX.mono hacc.size)
    clear hbX
    go_wp2_with fail
    with_reducible refine (frac_any (-3) 2 _ (by decide) (by decide)).mono ?_
    rw [fr_m3_2]
    rintro e wZ ⟨rfl, hbX⟩
    have hacc := hacc.trans (hbX.mono hacc.size)
    clear hbX
    go_wp2_with fail
    with_reducible refine (txt_s _ (hG.below hacc).tab).mono ?_
    rintro e wZ ⟨rfl, hbX⟩
    have hacc := hacc.trans (hbX.mono hacc.size)
    clear hbX
    go_wp2_with fail
    go_ret
    exact ⟨rfl, hacc⟩
end Go.Proofs.YtfbjboehniakcaaGreatDoor
