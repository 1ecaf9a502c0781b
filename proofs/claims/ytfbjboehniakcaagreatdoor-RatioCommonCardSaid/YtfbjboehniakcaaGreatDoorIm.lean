/- Walks of package ratio: fold, Sum. -/
import Derived.Test.YtfbjboehniakcaaGreatDoorId
namespace Go.Proofs.YtfbjboehniakcaaGreatDoor
open Go.RowKit W
open Pl (bval enc bv nb bv_nb nb_size_le nb_size_zero nb_size_mono nb_bv_size bv_lt cmpN nb_inj)
open Rq
/-- a number as its parts -/
def rawQ (q : Rat) : Raw := ⟨decide (q.num < 0), nb q.num.natAbs, nb q.den⟩
/-- the sum, begun with s -/
def tot (s : Rat) (l : List Rat) : Rat := l.foldl (· + ·) s
theorem tot_take (s : Rat) (l : List Rat) (k : Nat) (hk : k < l.length) : tot s (l.take (k + 1)) = tot s (l.take k) + l[k] := by
  rw [List.take_succ_eq_append_getElem hk, tot, List.foldl_append]; rfl
theorem Sz_tot (s : Rat) (l : List Rat) (hs : Sz s 200000) (hz : ∀ x ∈ l, Sz x 200000) : ∀ k, k ≤ l.length → Sz (tot s (l.take k)) (200001 * (k + 1)) := by
  intro k
  induction k with
  | zero => intro _; exact hs.mono (by omega)
  | succ k ih =>
    intro hk
    rw [tot_take s l k (by omega)]
    exact (Sz_add (ih (by omega)) (hz l[k] (List.getElem_mem _))).mono (by omega)
set_option maxRecDepth 100000 in
set_option maxHeartbeats 4000000 in
theorem afold_any (l : List Rat) (v : Value) (s : Rat) (w : World) (h : RawsR w v (l.map rawQ)) (hl : l.length ≤ 100) (hs : Sz s 200000) (hz : ∀ x ∈ l, Sz x 200000) :
    Calls Tryz.prog 68 #[v, rv s, .func (.func 26) #[] #[]] w fun e w' => e = .returned (rv (tot s l)) ∧ Below w.heap.size w w' := by
  obtain ⟨a, cap, rfl, hcell⟩ := h
  have Hcell := Lib.hid (show 0 < l.length → ∃ b, a = some ⟨b, 0, none⟩ ∧ b < w.heap.size ∧ ∀ i (h : i < l.length), w.cell? ⟨b, i * 3, none⟩ = some (.bool (rawQ l[i]).neg) ∧ w.cell? ⟨b, i * 3 + 1, none⟩ = some (.string (rawQ l[i]).s) ∧ w.cell? ⟨b, i * 3 + 1 + 1, none⟩ = some (.string (rawQ l[i]).t) from fun h0 => by
    obtain ⟨b, e, hb, hc⟩ := hcell (by rw [List.length_map]; exact h0)
    refine ⟨b, e, hb, fun i hi => ?_⟩
    have := hc i (by rw [List.length_map]; exact hi)
    simp only [List.getElem_map] at this
    exact this)
  rw [List.length_map]
  have HS := Lib.hid (Sz_tot s l hs hz)
  have HT := Lib.hid (tot_take s l)
  clear hcell
  unfold rv
  go_enter Tryz.func68, Tryz.ntmps68
  have bS : Rx ((w.alloc (.cells #[.bool (decide (s.num < 0)), .string (nb s.num.natAbs), .string (nb s.den)] 27)).alloc (.cells #[.bool false, .string ⟨#[]⟩, .string ⟨#[]⟩] 27)) (w.heap.size) [.bool (decide (s.num < 0)), .string (nb s.num.natAbs), .string (nb s.den)] := ((Rx.new w _ rfl [.bool (decide (s.num < 0)), .string (nb s.num.natAbs), .string (nb s.den)] 27).alloc (.cells #[.bool false, .string ⟨#[]⟩, .string ⟨#[]⟩] 27))
  have bR : Rx ((w.alloc (.cells #[.bool (decide (s.num < 0)), .string (nb s.num.natAbs), .string (nb s.den)] 27)).alloc (.cells #[.bool false, .string ⟨#[]⟩, .string ⟨#[]⟩] 27)) (w.heap.size + 1) [.bool false, .string ⟨#[]⟩, .string ⟨#[]⟩] := (Rx.new (w.alloc (.cells #[.bool (decide (s.num < 0)), .string (nb s.num.natAbs), .string (nb s.den)] 27)) _ (by simp) [.bool false, .string ⟨#[]⟩, .string ⟨#[]⟩] 27)
  have hacc := (((Below.refl w.heap.size w).alloc (Nat.le_refl w.heap.size) (.cells #[.bool (decide (s.num < 0)), .string (nb s.num.natAbs), .string (nb s.den)] 27)).alloc (by simp) (.cells #[.bool false, .string ⟨#[]⟩, .string ⟨#[]⟩] 27))
  go_upto_region 1 with fail
  generalize (w.alloc (.cells #[.bool (decide (s.num < 0)), .string (nb s.num.natAbs), .string (nb s.den)] 27)).alloc (.cells #[.bool false, .string ⟨#[]⟩, .string ⟨#[]⟩] 27) = W0 at *
  generalize hgR : w.heap.size + 1 = gR at *
  obtain ⟨gS, hgS⟩ : ∃ g, g = w.heap.size := ⟨_, rfl⟩
  rw [← hgS] at bS
  simp only [← hgS]
  have ngSgR : gS ≠ gR := by omega
  have kgS : w.heap.size ≤ gS := by omega
  have kgR : w.heap.size ≤ gR := by omega
  clear hgS hgR
  go_wp2_with fail
  go_loopw [11] (fun i wr => ∃ k : Nat, k ≤ l.length ∧ i = .int .i64 k ∧ Rx wr gS [.bool (decide ((tot s (l.take k)).num < 0)), .string (nb (tot s (l.take k)).num.natAbs), .string (nb (tot s (l.take k)).den)] ∧ Rx wr gR [.bool false, .string ⟨#[]⟩, .string ⟨#[]⟩] ∧ Below w.heap.size w wr) (fun i _ => l.length - (intOf i).toNat)
  case atStart => exact ⟨0, by omega, rfl, bS, bR, hacc⟩
  case round =>
    obtain ⟨k, hk, rfl, bS, bR, hacc⟩ := hrel
    by_cases hlt : k < l.length
    · obtain ⟨b, rfl, hbl, hc⟩ := Hcell.out (by omega)
      obtain ⟨c0, c1, c2⟩ := hc k hlt
      have c0 := (hacc.cell (p := ⟨b, k * 3, none⟩) hbl).trans c0
      have c1 := (hacc.cell (p := ⟨b, k * 3 + 1, none⟩) hbl).trans c1
      have c2 := (hacc.cell (p := ⟨b, k * 3 + 1 + 1, none⟩) hbl).trans c2
      clear hc
      have HN := Lib.hid (HT.out k hlt)
      have sx := hz l[k] (List.getElem_mem _)
      have st := HS.out k hk
      have HA := Lib.hid (fun W => aadd_any (tot s (l.take k)) l[k] W (st.mono (by omega)) (sx.mono (by omega)))
      rw [← HN.out] at HA
      clear HN
      simp only [rawQ] at c0 c1 c2
      simp only [rv] at HA
      obtain ⟨t1, ht1⟩ : ∃ t, tot s (l.take (k + 1)) = t := ⟨_, rfl⟩
      rw [ht1] at HA
      have HB := Lib.hid ht1
      clear ht1
      generalize tot s (l.take k) = t0 at *
      generalize l[k] = x at *
      have hk0 : (0 : Int) ≤ (k : Int) := by omega
      have hk1 : (k : Int) < (l.length : Int) := by omega
      clear st sx
      have kgX := hacc.size
      have hacc := hacc.alloc hacc.size (.cells #[.bool (decide (x.num < 0)), .string (nb x.num.natAbs), .string (nb x.den)] 27)
      have dgS := bS.lt
      have dgR := bR.lt
      have bS := bS.alloc (.cells #[.bool (decide (x.num < 0)), .string (nb x.num.natAbs), .string (nb x.den)] 27)
      have bR := bR.alloc (.cells #[.bool (decide (x.num < 0)), .string (nb x.num.natAbs), .string (nb x.den)] 27)
      have bX : Rx (wr.alloc (.cells #[.bool (decide (x.num < 0)), .string (nb x.num.natAbs), .string (nb x.den)] 27)) wr.heap.size [.bool (decide (x.num < 0)), .string (nb x.num.natAbs), .string (nb x.den)] := Rx.new wr _ rfl [.bool (decide (x.num < 0)), .string (nb x.num.natAbs), .string (nb x.den)] 27
      go_upto_region 4 with fail
      generalize wr.heap.size = gX at *
      generalize wr.alloc (.cells #[.bool (decide (x.num < 0)), .string (nb x.num.natAbs), .string (nb x.den)] 27) = WgX at *
      have ngSgX : gS ≠ gX := by omega
      have ngRgX : gR ≠ gX := by omega
      clear dgS dgR
      clear c0 c1 c2
      have cgS0 := bS.at 0 rfl
      have fgS0 := bS.fr 0 rfl
      have cgS1 := bS.at 1 rfl
      have fgS1 := bS.fr 1 rfl
      have cgS2 := bS.at 2 rfl
      have fgS2 := bS.fr 2 rfl
      have cgX0 := bX.at 0 rfl
      have fgX0 := bX.fr 0 rfl
      have cgX1 := bX.at 1 rfl
      have fgX1 := bX.fr 1 rfl
      have cgX2 := bX.at 2 rfl
      have fgX2 := bX.fr 2 rfl
      go_wp2_with fail
      clear cgS0 fgS0 cgS1 fgS1 cgS2 fgS2 cgX0 fgX0 cgX1 fgX1 cgX2 fgX2
      with_reducible refine (HA.out _).mono ?_
      rintro e wZ ⟨rfl, hbX⟩
      have hacc := hacc.trans (hbX.mono hacc.size)
      have bS := bS.below hbX
      have bR := bR.below hbX
      have bX := bX.below hbX
      clear hbX
      have cgS0 := bS.at 0 rfl
      have fgS0 := bS.fr 0 rfl
      have cgS1 := bS.at 1 rfl
      have fgS1 := bS.fr 1 rfl
      have cgS2 := bS.at 2 rfl
      have fgS2 := bS.fr 2 rfl
      have hacc := ((hacc.setCell (p := ⟨gS, 0, none⟩) kgS (.bool (decide (t1.num < 0)))).setCell (p := ⟨gS, 1, none⟩) kgS (.string (nb t1.num.natAbs))).setCell (p := ⟨gS, 2, none⟩) kgS (.string (nb t1.den))
      have bR := (((bR.other (p := ⟨gS, 0, none⟩) ngSgR (.bool (decide (t1.num < 0)))).other (p := ⟨gS, 1, none⟩) ngSgR (.string (nb t1.num.natAbs))).other (p := ⟨gS, 2, none⟩) ngSgR (.string (nb t1.den)))
      have bX := (((bX.other (p := ⟨gS, 0, none⟩) ngSgX (.bool (decide (t1.num < 0)))).other (p := ⟨gS, 1, none⟩) ngSgX (.string (nb t1.num.natAbs))).other (p := ⟨gS, 2, none⟩) ngSgX (.string (nb t1.den)))
      have bS := bS.put3 (.bool (decide (t1.num < 0))) (.string (nb t1.num.natAbs)) (.string (nb t1.den))
      go_wp2_with fail
      clear cgS0 fgS0 cgS1 fgS1 cgS2 fgS2
      generalize ((wZ.setCell ⟨gS, 0, none⟩ (.bool (decide (t1.num < 0)))).setCell ⟨gS, 1, none⟩ (.string (nb t1.num.natAbs))).setCell ⟨gS, 2, none⟩ (.string (nb t1.den)) = WS at *
      go_roundw
      case rel => exact ⟨k + 1, by omega, by go_num, by rw [HB.out]; exact bS, bR, hacc⟩
      case measure => simp [intOf]; omega
    · obtain rfl : k = l.length := by omega
      rw [List.take_length] at bS
      have cgS0 := bS.at 0 rfl
      have fgS0 := bS.fr 0 rfl
      have cgS1 := bS.at 1 rfl
      have fgS1 := bS.fr 1 rfl
      have cgS2 := bS.at 2 rfl
      have fgS2 := bS.fr 2 rfl
      have cgR0 := bR.at 0 rfl
      have fgR0 := bR.fr 0 rfl
      have cgR1 := bR.at 1 rfl
      have fgR1 := bR.fr 1 rfl
      have cgR2 := bR.at 2 rfl
      have fgR2 := bR.fr 2 rfl
      go_wp2_with fail
      refine bodyPost_ret (v := .agg #[.bool (decide ((tot s l).num < 0)), .string (nb (tot s l).num.natAbs), .string (nb (tot s l).den)]) (by simp [results, Tryz.results68, go_sem, cgR0, cgR1, cgR2]) rfl ⟨rfl, (((hacc.setCell kgR _).setCell kgR _).setCell kgR _)⟩
set_option maxRecDepth 100000 in
set_option maxHeartbeats 4000000 in
theorem asum_any (l : List Rat) (v : Value) (w : World) (h : RawsR w v (l.map rawQ)) (hl : l.length ≤ 100) (hz : ∀ x ∈ l, Sz x 200000) :
    Calls Tryz.prog 27 #[v] w fun e w' => e = .returned (rv (tot 0 l)) ∧ Below w.heap.size w w' := by
  have hF := Lib.hid (fun (W : World) (hW : RawsR W v (l.map rawQ)) => afold_any l v ((0 : Int) : Rat) W hW hl ((Sz_int (n := 0) (by decide) (by decide)).mono (by decide)) hz)
  have hO := Lib.hid (fun W => aof_any 0 W (by decide) (by decide))
  rw [show ((0 : Int) : Rat) = 0 from rfl] at hF hO
  clear hl hz
  generalize tot 0 l = t at *
  generalize (0 : Rat) = z at *
  simp only [rv] at hF hO
  unfold rv
  go_enter Tryz.func27, Tryz.ntmps27
  have bR : Rx (w.alloc (.cells #[.bool false, .string ⟨#[]⟩, .string ⟨#[]⟩] 27)) (w.heap.size) [.bool false, .string ⟨#[]⟩, .string ⟨#[]⟩] := (Rx.new w _ rfl [.bool false, .string ⟨#[]⟩, .string ⟨#[]⟩] 27)
  have hacc := ((Below.refl w.heap.size w).alloc (Nat.le_refl w.heap.size) (.cells #[.bool false, .string ⟨#[]⟩, .string ⟨#[]⟩] 27))
  go_upto_region 1 with fail
  generalize w.alloc (.cells #[.bool false, .string ⟨#[]⟩, .string ⟨#[]⟩] 27) = W0 at *
  obtain ⟨gR, hgR⟩ : ∃ g, g = w.heap.size := ⟨_, rfl⟩
  rw [← hgR] at bR
  simp only [← hgR]
  have kgR : w.heap.size ≤ gR := by omega
  clear hgR
  go_wp2_with fail
  with_reducible refine (hO.out _).mono ?_
  rintro e wZ ⟨rfl, hbX⟩
  have hacc := hacc.trans (hbX.mono hacc.size)
  have bR := bR.below hbX
  clear hbX
  go_wp2_with fail
  with_reducible refine (hF.out _ (h.below hacc)).mono ?_
  rintro e wZ ⟨rfl, hbX⟩
  have hacc := hacc.trans (hbX.mono hacc.size)
  have bR := bR.below hbX
  clear hbX
  have cgR0 := bR.at 0 rfl
  have fgR0 := bR.fr 0 rfl
  have cgR1 := bR.at 1 rfl
  have fgR1 := bR.fr 1 rfl
  have cgR2 := bR.at 2 rfl
  have fgR2 := bR.fr 2 rfl
  go_wp2_with fail
  refine bodyPost_ret (v := .agg #[.bool (decide (t.num < 0)), .string (nb t.num.natAbs), .string (nb t.den)]) (by simp [results, Tryz.results27, go_sem, cgR0, cgR1, cgR2]) rfl ⟨rfl, (((hacc.setCell kgR _).setCell kgR _).setCell kgR _)⟩
end Go.Proofs.YtfbjboehniakcaaGreatDoor
