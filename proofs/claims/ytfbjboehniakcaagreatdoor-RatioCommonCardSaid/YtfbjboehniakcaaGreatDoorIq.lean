/- Walks of the reference's Common and List. -/
import Derived.Test.YtfbjboehniakcaaGreatDoorIp
namespace Go.Proofs.YtfbjboehniakcaaGreatDoor
open Go.RowKit W
open Pl (bval enc bv nb bv_nb nb_size_le nb_size_zero nb_size_mono nb_bv_size bv_lt cmpN nb_inj)
open Rq
set_option maxRecDepth 100000 in
set_option maxHeartbeats 8000000 in
theorem rcommon_any (l : List Raw) (v : Value) (w : World) (h : RawsR w v l) (hl : l.length ≤ 1000) (hz : ∀ x ∈ l, x.s.size ≤ 1000 ∧ x.t.size ≤ 1000) :
    Calls Tryz.prog 24 #[v] w fun e w' => (∃ vo, e = .returned (.tuple #[.string (comS l), vo, .bool (comB l)]) ∧ Strs w' w.heap.size vo (comL l)) ∧ Below w.heap.size w w' := by
  obtain ⟨a, cap, rfl, hcell⟩ := h
  have Hcell := Lib.hid hcell
  clear hcell
  have HO := Lib.hid (fun W => ofn_any 1 W (by decide) (by decide))
  rw [show (1 : Int).toNat = 1 from rfl] at HO
  go_enter Tryz.func24, Tryz.ntmps24
  go_wp2_with fail
  with_reducible refine (HO.out _).mono ?_
  rintro e wO ⟨rfl, hacc⟩
  go_wp2_with fail
  go_loopw [5, 6] (fun d i wr => ∃ k dd : Nat, k ≤ l.length ∧ i = .int .i64 k ∧ d = .string (nb dd) ∧ ComI l k dd ∧ Below w.heap.size w wr) (fun _ i _ => l.length - (intOf i).toNat)
  case atStart => exact ⟨0, 1, by omega, rfl, rfl, ComI.start l, hacc⟩
  case round =>
    clear hacc
    obtain ⟨k, dd, hk, rfl, rfl, hI, hacc⟩ := hrel
    have HI := Lib.hid hI
    obtain ⟨_, dpos, dsz⟩ := hI
    by_cases hlt : k < l.length
    · obtain ⟨b, rfl, hbl, hc⟩ := Hcell.out (by omega)
      obtain ⟨c0, c1, c2⟩ := hc k hlt
      have c0 := (hacc.cell (p := ⟨b, k * 3, none⟩) hbl).trans c0
      have c1 := (hacc.cell (p := ⟨b, k * 3 + 1, none⟩) hbl).trans c1
      have c2 := (hacc.cell (p := ⟨b, k * 3 + 1 + 1, none⟩) hbl).trans c2
      clear hc
      obtain ⟨zs, zt⟩ := hz l[k] (List.getElem_mem _)
      have HN := Lib.hid (fun h1 h2 => HI.out.next hlt h1 h2 zt)
      have HX := Lib.hid (fun h1 => HI.out.bad hlt h1)
      generalize l[k].neg = xn at *
      generalize l[k].s = xs at *
      generalize l[k].t = xt at *
      have hk0 : (0 : Int) ≤ (k : Int) := by omega
      have hk1 : (k : Int) < (l.length : Int) := by omega
      go_wp2_with fail
      by_cases hB : rawB xn xs xt = true
      · cases xn
        · have hp := rawB_pos hB
          have HI2 := Lib.hid (HN.out hB rfl)
          have hg : 0 < Nat.gcd dd (bv xt) := Nat.gcd_pos_of_pos_right _ hp
          have sg : (nb (Nat.gcd dd (bv xt))).size ≤ 1000 := Nat.le_trans (nb_size_mono (Nat.le_of_dvd hp (Nat.gcd_dvd_right _ _))) (bv_bound zt)
          have sq : (nb (bv xt / Nat.gcd dd (bv xt))).size ≤ 1000 := div_size (bv_bound zt)
          have HG := Lib.hid (fun W => rgcd_any (nb dd) xt W (by omega) (by omega))
          have HQ := Lib.hid (fun W => quo_any xt (nb (Nat.gcd dd (bv xt))) W (by omega) (by omega) (by rw [bv_nb]; exact hg))
          have HM := Lib.hid (fun W => mul_any (nb dd) (nb (bv xt / Nat.gcd dd (bv xt))) W (by omega) (by omega))
          rw [bv_nb] at HG HQ
          rw [bv_nb, bv_nb] at HM
          with_reducible refine (rright2_any false xs xt _ (by omega) (by omega)).mono ?_
          rw [hB]
          rintro e wZ ⟨rfl, hbX⟩
          have c0 := (hbX.cell (World.block_lt_of_cell? _ _ c0)).trans c0
          have c2 := (hbX.cell (World.block_lt_of_cell? _ _ c2)).trans c2
          have hacc := hacc.trans (hbX.mono hacc.size)
          clear hbX
          go_wp2_with fail
          with_reducible refine (HG.out _).mono ?_
          rintro e wX ⟨rfl, hbX⟩
          have c2 := (hbX.cell (World.block_lt_of_cell? _ _ c2)).trans c2
          have hacc := hacc.trans (hbX.mono hacc.size)
          clear hbX
          go_wp2_with fail
          with_reducible refine (HQ.out _).mono ?_
          rintro e wV ⟨rfl, hbX⟩
          have hacc := hacc.trans (hbX.mono hacc.size)
          clear hbX
          go_wp2_with fail
          with_reducible refine (HM.out _).mono ?_
          rintro e wY ⟨rfl, hbX⟩
          have hacc := hacc.trans (hbX.mono hacc.size)
          clear hbX c0 c1 c2
          go_wp2_with fail
          go_roundw
          case rel => exact ⟨k + 1, _, by omega, by go_num, rfl, HI2.out, hacc⟩
          case measure => simp [intOf]; omega
        · have HE := Lib.hid (com_none (HX.out (fun h => by simp at h)))
          with_reducible refine (rright2_any true xs xt _ (by omega) (by omega)).mono ?_
          rw [hB]
          rintro e wZ ⟨rfl, hbX⟩
          have c0 := (hbX.cell (World.block_lt_of_cell? _ _ c0)).trans c0
          have hacc := hacc.trans (hbX.mono hacc.size)
          clear hbX
          go_wp2_with fail
          refine bodyPost_ret (v := .tuple #[.string ⟨#[]⟩, .slice none 0 0, .bool false]) (by simp [results, Tryz.results24, go_sem]) rfl ⟨⟨_, by rw [HE.out.1, HE.out.2.2], by rw [HE.out.2.1]; exact Strs.nil _ _⟩, hacc⟩
      · have hB' : rawB xn xs xt = false := by simpa using hB
        have HE := Lib.hid (com_none (HX.out (fun h => hB h.1)))
        with_reducible refine (rright2_any xn xs xt _ (by omega) (by omega)).mono ?_
        rw [hB']
        rintro e wZ ⟨rfl, hbX⟩
        have hacc := hacc.trans (hbX.mono hacc.size)
        clear hbX
        go_wp2_with fail
        refine bodyPost_ret (v := .tuple #[.string ⟨#[]⟩, .slice none 0 0, .bool false]) (by simp [results, Tryz.results24, go_sem]) rfl ⟨⟨_, by rw [HE.out.1, HE.out.2.2], by rw [HE.out.2.1]; exact Strs.nil _ _⟩, hacc⟩
    · obtain rfl : k = l.length := by omega
      have hD := HI.out.done
      have HE := Lib.hid (com_some hD)
      have HP := Lib.hid (comD_pos l 1 dd hD)
      clear hD
      go_wp2_with fail
      go_loopw [12, 13] (fun o i wr => ∃ k : Nat, k ≤ l.length ∧ i = .int .i64 k ∧ Strs wr w.heap.size o ((l.map fun x => nb (bv x.s * (dd / bv x.t))).take k) ∧ Below w.heap.size w wr) (fun _ i _ => l.length - (intOf i).toNat)
      case atStart => exact ⟨0, by omega, rfl, Strs.nil _ _, hacc⟩
      case round =>
        clear hacc
        obtain ⟨k, hk, rfl, hS, hacc⟩ := hrel
        by_cases hlt : k < l.length
        · obtain ⟨b, rfl, hbl, hc⟩ := Hcell.out (by omega)
          obtain ⟨c0, c1, c2⟩ := hc k hlt
          have c1 := (hacc.cell (p := ⟨b, k * 3 + 1, none⟩) hbl).trans c1
          have c2 := (hacc.cell (p := ⟨b, k * 3 + 1 + 1, none⟩) hbl).trans c2
          clear hc c0
          obtain ⟨zs, zt⟩ := hz l[k] (List.getElem_mem _)
          have hp := HP.out l[k] (List.getElem_mem _)
          have hT := Lib.hid (take_map_succ l (fun x => nb (bv x.s * (dd / bv x.t))) k hlt)
          have hln : ((l.map fun x => nb (bv x.s * (dd / bv x.t))).take k).length < 1000000000 := by simp; omega
          generalize hL : (l.map fun x => nb (bv x.s * (dd / bv x.t))).take k = L at *
          clear hL
          generalize l[k].s = xs at *
          generalize l[k].t = xt at *
          have hk0 : (0 : Int) ≤ (k : Int) := by omega
          have hk1 : (k : Int) < (l.length : Int) := by omega
          have sD : (nb (dd / bv xt)).size ≤ 1000008 := div_size (by omega)
          have HQ := Lib.hid (fun W => quo_any (nb dd) xt W (by omega) (by omega) hp)
          have HM := Lib.hid (fun W => mul_any xs (nb (dd / bv xt)) W (by omega) (by omega))
          rw [bv_nb] at HQ HM
          go_wp2_with fail
          with_reducible refine (HQ.out _).mono ?_
          rintro e wZ ⟨rfl, hbX⟩
          have c1 := (hbX.cell (World.block_lt_of_cell? _ _ c1)).trans c1
          have hacc := hacc.trans (hbX.mono hacc.size)
          have hS := hS.below hbX
          clear hbX c2
          go_wp2_with fail
          with_reducible refine (HM.out _).mono ?_
          rintro e wY ⟨rfl, hbX⟩
          have hacc := hacc.trans (hbX.mono hacc.size)
          have hS := hS.below hbX
          clear hbX c1
          go_wp2_with (at_builtin; refine app_str (by rfl) (by rfl) (by rfl) (by rfl) w.heap.size hS hln hacc.size ?_; intro v' w1 hl1 hg1)
          go_wp2_with fail
          go_roundw
          case rel => exact ⟨k + 1, by omega, by go_num, by rw [hT.out]; exact hl1, hacc.grown hg1 hacc.size hS.own⟩
          case measure => simp [intOf]; omega
        · obtain rfl : k = l.length := by omega
          have hfull : (l.map fun x => nb (bv x.s * (dd / bv x.t))).take l.length = comL l := by rw [HE.out.2.1, List.take_of_length_le (by simp)]
          rw [hfull] at hS
          clear hfull
          obtain ⟨ao, co, rfl⟩ := hS.form
          go_wp2_with fail
          refine bodyPost_ret (v := .tuple #[.string (nb dd), .slice ao (comL l).length co, .bool true]) (by simp [results, Tryz.results24, go_sem]) rfl ⟨⟨_, by rw [HE.out.1, HE.out.2.2], hS⟩, hacc⟩
/-- a slice of triples of ints that came in -/
structure T3 where
  x : Int
  y : Int
  z : Int
def TripR (w : World) (v : Value) (l : List T3) : Prop := ∃ (a : Option Addr) (cap : Nat), v = .slice a l.length cap ∧ (∀ x ∈ l, (-9223372036854775808 ≤ x.x ∧ x.x ≤ 9223372036854775807) ∧ (-9223372036854775808 ≤ x.y ∧ x.y ≤ 9223372036854775807)) ∧ (0 < l.length → ∃ b o, a = some ⟨b, o, none⟩ ∧ b < w.heap.size ∧ ∀ i (h : i < l.length), w.cell? ⟨b, o + i * 3, none⟩ = some (.int .i64 l[i].x) ∧ w.cell? ⟨b, o + i * 3 + 1, none⟩ = some (.int .i64 l[i].y) ∧ w.cell? ⟨b, o + i * 3 + 1 + 1, none⟩ = some (.int .i64 l[i].z))
theorem TripR.below {w w' : World} {v : Value} {l : List T3} (h : TripR w v l) (hb : Below w.heap.size w w') : TripR w' v l := by
  obtain ⟨a, cap, rfl, h0, h1⟩ := h
  refine ⟨a, cap, rfl, h0, fun hp => ?_⟩
  obtain ⟨b, o, e, hlt, hc⟩ := h1 hp
  exact ⟨b, o, e, Nat.lt_of_lt_of_le hlt hb.size, fun i hi => ⟨(hb.cell (p := ⟨b, _, none⟩) hlt).trans (hc i hi).1, (hb.cell (p := ⟨b, _, none⟩) hlt).trans (hc i hi).2.1, (hb.cell (p := ⟨b, _, none⟩) hlt).trans (hc i hi).2.2⟩⟩
def ListP (w : World) (e : Ending) (w' : World) : Prop := ∃ (vo : Value) (qs : List Rat), e = .returned vo ∧ Rats w' w.heap.size vo (qs.map rawQ) ∧ qs.length ≤ 12 ∧ ∀ q ∈ qs, Sz q 24
set_option maxRecDepth 100000 in
set_option maxHeartbeats 8000000 in
theorem rlist_any (l : List T3) (v : Value) (w : World) (h : TripR w v l) :
    Calls Tryz.prog 22 #[v] w fun e w' => ListP w e w' ∧ Below w.heap.size w w' := by
  obtain ⟨a, cap, rfl, hbd, hcell⟩ := h
  have Hcell := Lib.hid hcell
  have Hbd := Lib.hid hbd
  clear hcell hbd
  go_enter Tryz.func22, Tryz.ntmps22
  go_wp2_with fail
  go_loopw [3, 4] (fun o i wr => ∃ (k : Nat) (qs : List Rat), k ≤ l.length ∧ k ≤ 12 ∧ i = .int .i64 k ∧ qs.length = k ∧ Hid (∀ q ∈ qs, Sz q 24) ∧ Rats wr w.heap.size o (qs.map rawQ) ∧ Below w.heap.size w wr) (fun _ i _ => 12 - (intOf i).toNat)
  case atStart => exact ⟨0, [], by omega, by omega, rfl, rfl, Lib.hid (by simp), Rats.nil _ _, Below.refl _ _⟩
  case round =>
    obtain ⟨k, qs, hk, hk12, rfl, hqk, HS, hR, hacc⟩ := hrel
    have Hqk := Lib.hid hqk
    clear hqk
    by_cases hlt : k < l.length ∧ k < 12
    · obtain ⟨hlt, hlt12⟩ := hlt
      obtain ⟨b, o, rfl, hbl, hc⟩ := Hcell.out (by omega)
      obtain ⟨c0, c1, c2⟩ := hc k hlt
      have c0 := (hacc.cell (p := ⟨b, o + k * 3, none⟩) hbl).trans c0
      have c1 := (hacc.cell (p := ⟨b, o + k * 3 + 1, none⟩) hbl).trans c1
      have c2 := (hacc.cell (p := ⟨b, o + k * 3 + 1 + 1, none⟩) hbl).trans c2
      obtain ⟨⟨x0, x1⟩, ⟨y0, y1⟩⟩ := Hbd.out l[k] (List.getElem_mem _)
      have HM := Lib.hid (fun W => rmade2_any l[k].x l[k].y l[k].z W x0 x1 y0 y1)
      clear hc x0 x1 y0 y1
      generalize l[k].x = x at *
      generalize l[k].y = y at *
      generalize l[k].z = z at *
      have hk0 : (0 : Int) ≤ (k : Int) := by omega
      have hk1 : (k : Int) < (l.length : Int) := by omega
      have hk2 : (k : Int) < 12 := by omega
      go_wp2_with fail
      with_reducible refine (HM.out _).mono ?_
      rintro e wZ ⟨⟨q, rfl, hq⟩, hbX⟩
      have hacc := hacc.trans (hbX.mono hacc.size)
      have hR := hR.below hbX
      have HS2 : Hid (∀ x ∈ qs ++ [q], Sz x 24) := Lib.hid (by
        intro x hx
        rcases List.mem_append.1 hx with hx | hx
        · exact HS.out x hx
        · rw [List.mem_singleton.1 hx]; exact hq)
      have HL : Hid ((qs.map rawQ) ++ [rawQ q] = (qs ++ [q]).map rawQ) := Lib.hid (by simp)
      have hln : (qs.map rawQ).length < 900000000 := by rw [List.length_map, Hqk.out]; omega
      clear hbX c0 c1 c2 hq HS HM
      unfold rv
      go_wp2_with (at_builtin; refine app_rat (by rfl) (by rfl) (by rfl) (by rfl) w.heap.size hR hln hacc.size ?_; intro v' w1 hl1 hg1)
      go_wp2_with fail
      go_roundw
      case rel => exact ⟨k + 1, qs ++ [q], by omega, by omega, by go_num, by rw [List.length_append, Hqk.out]; rfl, HS2, by rw [← HL.out]; exact hl1, hacc.grown hg1 hacc.size hR.own⟩
      case measure => simp [intOf]; omega
    · have Hfin : Hid (∀ q ∈ qs, Sz q 24) := HS
      by_cases hlt1 : k < l.length
      · have hk12' : ¬ (k : Int) < 12 := by omega
        have hk1 : (k : Int) < (l.length : Int) := by omega
        have hdd : decide ((k : Int) < 12) = false := by simpa using hk12'
        clear hlt
        go_wp2_with fail
        go_ret
        exact ⟨⟨_, qs, rfl, hR, by rw [Hqk.out]; exact hk12, Hfin.out⟩, hacc⟩
      · obtain rfl : k = l.length := by omega
        clear hlt
        go_wp2_with fail
        go_ret
        exact ⟨⟨_, qs, rfl, hR, by rw [Hqk.out]; exact hk12, Hfin.out⟩, hacc⟩
end Go.Proofs.YtfbjboehniakcaaGreatDoor
