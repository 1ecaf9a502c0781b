/- Walks of package nat: short, shifted, unshifted. -/
import Derived.Test.YtfbjboehniakcaaGreatDoorV5
import Derived.Test.YtfbjboehniakcaaGreatDoorZ
import Derived.WalkMore
namespace Go.Proofs.YtfbjboehniakcaaGreatDoor
open Go.RowKit W
open Pl (bval enc bv nb u8 u8_toNat tk nb_size_le bv_nb bv_lt nb_bv_size nb_size_zero cmpN cmpN_lt cmpN_gt cmpN_eq)
theorem or_limb (r z : Int) (hr0 : 0 ≤ r) (hr : r < 4294967296) (hz0 : 0 ≤ z) (hz : z < 4294967296) : bits BinOp.or IntKind.u64 (r * 4294967296) z = r * 4294967296 + z :=
  bits_join .u64 64 (by decide) wraps_u64 32 _ _ (by omega) (by omega) (by omega) (by omega) (by omega) (by omega)
theorem short_sum {r V : Nat} {z : Int} (hr : r < V) (hV1 : V < 4294967296) (hz0 : 0 ≤ z) (hz : z < 4294967296) : bits BinOp.or IntKind.u64 ((r : Int) * 4294967296) z = ((z.toNat + 4294967296 * r : Nat) : Int) := by
  rw [or_limb _ _ (by omega) (by omega) hz0 hz]; omega
theorem short_quo {r V : Nat} {z : Int} (hr : r < V) (hV1 : V < 4294967296) (hz0 : 0 ≤ z) (hz : z < 4294967296) : IntKind.u64.wrap ((bits BinOp.or IntKind.u64 ((r : Int) * 4294967296) z).tdiv V) % 4294967296 = (((z.toNat + 4294967296 * r) / V : Nat) : Int) := by
  rw [short_sum hr hV1 hz0 hz]
  have h1 : (z.toNat + 4294967296 * r) / V < 4294967296 := Nat.div_lt_of_lt_mul (by omega)
  rw [show (((z.toNat + 4294967296 * r : Nat) : Int).tdiv V) = (((z.toNat + 4294967296 * r) / V : Nat) : Int) from rfl, IntKind.wrap_u64]
  generalize (z.toNat + 4294967296 * r) / V = q at *
  omega
theorem short_rem {r V : Nat} {z : Int} (hr : r < V) (hV1 : V < 4294967296) (hz0 : 0 ≤ z) (hz : z < 4294967296) : (bits BinOp.or IntKind.u64 ((r : Int) * 4294967296) z).tmod V = (((z.toNat + 4294967296 * r) % V : Nat) : Int) := by
  rw [short_sum hr hV1 hz0 hz]; rfl
set_option maxRecDepth 100000 in
set_option maxHeartbeats 4000000 in
theorem nshort_any (x : List Int) (vx : Value) (V B : Nat) (w : World) (hx : Dig x) (h : U32s w B vx x) (hV : 0 < V) (hV1 : V < 4294967296) (hlen : x.length ≤ 1073741824) :
    Calls Tryz.prog 74 #[vx, .int .u32 V] w fun e w' => (∃ v, e = .returned (.tuple #[v, .int .u32 (((dv x).toNat % V : Nat) : Int)]) ∧ U32s w' w.heap.size v (digs ((dv x).toNat / V))) ∧ Below w.heap.size w w' := by
  obtain ⟨a, cap, rfl, hc, hm, hcell⟩ := h.open
  unfold maxLen at hm
  have Hcell := Lib.hid hcell
  clear hcell
  have hmk := urun_mk (x.length : Int) x.length rfl (by omega)
  have hmade := U32s.made w x.length (by omega)
  have Hmade := Lib.hid hmade
  clear hmade
  go_enter Tryz.func74, Tryz.ntmps74
  go_wp2_with fail
  clear hmk
  generalize hg : w.heap.size = g at *
  have hbw : Below g w (w.alloc (.cells (uzrow x.length) 84)) := (Below.refl _ _).alloc (by omega) _
  go_loopw [7, 8] (fun c k wr => ∃ (quo : List Int) (r m : Nat), m ≤ x.length ∧ QI x V m quo r ∧ U32s wr g (.slice (some ⟨g, 0, none⟩) x.length x.length) quo ∧ c = .int .u64 r ∧ k = .int .i64 ((m : Int) - 1) ∧ Below g w wr) (fun _ k _ => (intOf k + 1).toNat)
  case atStart => exact ⟨_, 0, x.length, Nat.le_refl _, QI.start x hV, Hmade.out, rfl, rfl, hbw⟩
  case round =>
    obtain ⟨quo, r, m, hml, hq, ho, rfl, rfl, hbel⟩ := hrel
    have hrl := hq.lt
    have hql := hq.len
    cases m with
    | zero =>
      have hd := Lib.hid (hq.done (N := (dv x).toNat) (by have := dv_nonneg hx; omega))
      have hdg := hq.dig
      go_wp2_with (go_at_call 92; refine (utrim_any _ _ _ _ hdg ho).mono ?_; rintro e w' ⟨⟨v2, rfl, hv2⟩, rfl⟩)
      go_ret2
      subst hg
      exact ⟨⟨v2, ret2 rfl (val_int (by rw [hd.out.2])), hv2.of_eq (by rw [hd.out.1])⟩, hbel⟩
    | succ m =>
      obtain ⟨gx, hg1, hg2, rfl, hc1⟩ := Hcell.out m (by omega)
      have hc2 : wr.cell? ⟨gx, m, none⟩ = some (.int .u32 x[m]) := by rw [hbel.cell (p := ⟨gx, m, none⟩) (by omega)]; exact hc1
      have em : ((m + 1 : Nat) : Int) - 1 = m := by omega
      rw [em]
      clear em hc1
      have h0 : (0 : Int) ≤ m := by omega
      have h1 : (m : Int) < x.length := by omega
      obtain ⟨c1, c2⟩ := ho.at m (by omega)
      have hz := hx.get m (by omega)
      have hst := hq.step (m := m) (by omega) rfl hz.1 hz.2
      have hset := ho.set m
      generalize x[m] = z at hc2 hz hst
      have hst := Lib.hid hst
      have hset := Lib.hid hset
      obtain ⟨hz0, hz1⟩ := hz
      have hq2 := short_quo hrl hV1 hz0 hz1
      have hr2 := short_rem hrl hV1 hz0 hz1
      have hq3 := Lib.hid hq2
      have hr3 := Lib.hid hr2
      clear hq2 hr2
      go_wp2
      rw [hq3.out, hr3.out]
      go_roundw
      case rel => exact ⟨_, _, m, by omega, hst.out, hset.out _, rfl, rfl, hbel.setCell (Nat.le_refl _) _⟩
      case measure => first | (simp [intOf]; done) | (simp [intOf]; omega)
theorem or_low {d p q low : Int} {i : Nat} (hp : p = 2 ^ i) (hpq : p * q = 4294967296) (h0 : 0 ≤ low) (h1 : low < p) : bits BinOp.or IntKind.u32 (d * p % 4294967296) low = d * p % 4294967296 + low := by
  have hp0 : 0 < p := by rw [hp]; exact Int.pow_pos (by omega)
  have hd := digit_lt (d := d) hp0 hpq
  have hm := (mul_mod_div (d := d) hp0 hpq).1
  have hq := q_pos hp0 hpq
  refine bits_join .u32 32 (by decide) wraps_u32 i _ _ (by omega) ?_ (by omega) h0 (by omega) (by omega)
  rw [hm, ← hp, Int.mul_emod_right]
set_option maxRecDepth 100000 in
set_option maxHeartbeats 4000000 in
theorem nshifted_any (x : List Int) (vx : Value) (p q : Int) (i n B : Nat) (w : World) (hx : Dig x) (h : U32s w B vx x) (hi : i < 32) (hp : p = 2 ^ i) (hq : q = 2 ^ (32 - i)) (hlx : x.length ≤ n) (hlen : n ≤ 1073741824) (hfit : dv x * p < 4294967296 ^ n) :
    Calls Tryz.prog 104 #[vx, .int .i64 i, .int .i64 n] w fun e w' => (∃ g cap out, e = .returned (.slice (some ⟨g, 0, none⟩) n cap) ∧ U32s w' w.heap.size (.slice (some ⟨g, 0, none⟩) n cap) out ∧ Dig out ∧ out.length = n ∧ dv out = dv x * p) ∧ Below w.heap.size w w' := by
  obtain ⟨a, cap, rfl, hc, hm, hcell⟩ := h.open
  unfold maxLen at hm
  have Hcell := Lib.hid hcell
  clear hcell
  have hpq : p * q = 4294967296 := by rw [hp, hq, ← Int.pow_add, show i + (32 - i) = 32 by omega]; rfl
  have hp0 : 0 < p := by rw [hp]; exact Int.pow_pos (by omega)
  have HP := Lib.hid (And.intro hp (And.intro hq (And.intro hpq hfit)))
  clear hp hq hpq hfit
  have hmk := urun_mk (n : Int) n rfl (by omega)
  have hmade := U32s.made w n (by omega)
  have Hmade := Lib.hid hmade
  clear hmade
  go_enter Tryz.func104, Tryz.ntmps104
  go_wp2_with fail
  clear hmk
  generalize hg : w.heap.size = g at *
  have hbw : Below g w (w.alloc (.cells (uzrow n) 84)) := (Below.refl _ _).alloc (by omega) _
  go_loopw [8, 15] (fun c k wr => ∃ (out : List Int) (low : Int) (kk : Nat), kk ≤ n ∧ HI x p kk out low ∧ U32s wr g (.slice (some ⟨g, 0, none⟩) n n) (out ++ (List.replicate n 0).drop kk) ∧ c = .int .u32 low ∧ k = .int .i64 kk ∧ Below g w wr) (fun _ k _ => n - (intOf k).toNat)
  case atStart => exact ⟨[], 0, 0, by omega, HI.start x hp0, by simpa using Hmade.out, rfl, rfl, hbw⟩
  case round =>
    obtain ⟨out, low, kk, hkn, hh, ho, rfl, rfl, hbel⟩ := hrel
    have hol := hh.2.1
    have hl0 := hh.2.2.1
    have hl1 := hh.2.2.2.1
    by_cases hlt : kk < n
    · obtain ⟨c1, c2⟩ := ho.at kk (by simp; omega)
      have hset := Lib.hid (fun z => (ho.set kk z).of_eq (set_mid hol (by simpa using hlt) z))
      have hst := Lib.hid (hh.succ hx hp0 HP.out.2.2.1)
      by_cases hlv : kk < x.length
      · obtain ⟨gx, hg1, hg2, rfl, hc1⟩ := Hcell.out kk hlv
        have hc2 : wr.cell? ⟨gx, kk, none⟩ = some (.int .u32 x[kk]) := by rw [hbel.cell (p := ⟨gx, kk, none⟩) (by omega)]; exact hc1
        rw [gd_lt hlv] at hst
        have hz := hx.get kk hlv
        clear hc1
        generalize x[kk] = z at *
        go_wp2
        rw [show (2 : Int) ^ i = p from HP.out.1.symm, show (2 : Int) ^ (32 - i) = q from HP.out.2.1.symm, or_low HP.out.1 HP.out.2.2.1 hl0 hl1]
        go_roundw
        case rel => exact ⟨_, _, kk + 1, by omega, hst.out, hset.out _, rfl, by go_num, hbel.setCell (Nat.le_refl _) _⟩
        case measure => simp [intOf]; omega
      · rw [gd_ge hlv, Int.zero_ediv] at hst
        have ho0 := or_low (d := 0) HP.out.1 HP.out.2.2.1 hl0 hl1
        rw [Int.zero_mul, Int.zero_emod] at ho0 hst
        have HO := Lib.hid ho0
        clear ho0
        go_wp2
        rw [HO.out]
        go_roundw
        case rel => exact ⟨_, _, kk + 1, by omega, hst.out, hset.out _, rfl, by go_num, hbel.setCell (Nat.le_refl _) _⟩
        case measure => simp [intOf]; omega
    · obtain rfl : kk = n := by omega
      have hd := Lib.hid (hh.done hlx HP.out.2.2.2)
      go_wp2
      go_ret
      subst hg
      exact ⟨⟨_, _, out, rfl, by simpa using ho, hd.out.2.1, hd.out.2.2.1, hd.out.2.2.2⟩, hbel⟩
theorem or_high {z q r : Int} {V : Nat} {i : Nat} (hV : (V : Int) = 2 ^ i) (hq : q = 2 ^ (32 - i)) (hi : i < 32) (hz0 : 0 ≤ z) (hz1 : z < 4294967296) (hr0 : 0 ≤ r) (hr : r < V) :
    bits BinOp.or IntKind.u32 (z / V) (r * q) = (((z.toNat + 4294967296 * r.toNat) / V : Nat) : Int) := by
  have hpq : (V : Int) * q = 4294967296 := by rw [hV, hq, ← Int.pow_add, show i + (32 - i) = 32 by omega]; rfl
  have hp0 : 0 < (V : Int) := by omega
  have hq0 := q_pos hp0 hpq
  have h1 : z / V < q := Int.ediv_lt_of_lt_mul hp0 (by rw [Int.mul_comm]; omega)
  have h0 : 0 ≤ z / V := Int.ediv_nonneg hz0 (by omega)
  have h2 : r * q ≤ 4294967296 - q := by
    have := Int.mul_le_mul_of_nonneg_right (show r ≤ V - 1 by omega) (Int.le_of_lt hq0)
    rw [Int.sub_mul, hpq] at this
    omega
  have h3 : 0 ≤ r * q := Int.mul_nonneg hr0 (Int.le_of_lt hq0)
  rw [bits_join_low .u32 32 (by decide) wraps_u32 (32 - i) _ _ h0 (by rw [← hq]; exact h1) (by omega) h3 (by rw [← hq, Int.mul_emod_left]) (by omega)]
  have e : (((z.toNat + 4294967296 * r.toNat) / V : Nat) : Int) = (z + 4294967296 * r) / V := by
    rw [Int.natCast_ediv]; congr 1; omega
  rw [e, ← hpq, Int.mul_assoc, Int.add_mul_ediv_left _ _ (Int.ne_of_gt hp0), Int.mul_comm q r]
theorem rem_low {z q r : Int} {V : Nat} {i : Nat} (hV : (V : Int) = 2 ^ i) (hq : q = 2 ^ (32 - i)) (hi : i < 32) (hz0 : 0 ≤ z) (hr0 : 0 ≤ r) :
    z * q % 4294967296 = (((z.toNat + 4294967296 * r.toNat) % V : Nat) : Int) * q := by
  have hpq : (V : Int) * q = 4294967296 := by rw [hV, hq, ← Int.pow_add, show i + (32 - i) = 32 by omega]; rfl
  have hp0 : 0 < (V : Int) := by rw [hV]; exact Int.pow_pos (by omega)
  have hq0 := q_pos hp0 hpq
  have e := (mul_mod_div (d := z) hq0 (by rw [Int.mul_comm]; exact hpq)).1
  have e2 : (((z.toNat + 4294967296 * r.toNat) % V : Nat) : Int) = z % V := by
    rw [Int.natCast_emod]
    have e3 : ((z.toNat + 4294967296 * r.toNat : Nat) : Int) = z + V * (q * r) := by rw [← Int.mul_assoc, hpq]; omega
    rw [e3, Int.add_mul_emod_self_left]
  rw [e, e2, Int.mul_comm]
set_option maxRecDepth 100000 in
set_option maxHeartbeats 4000000 in
theorem nunshifted_any (x : List Int) (vx : Value) (V i B : Nat) (w : World) (hx : Dig x) (h : U32s w B vx x) (hi : i < 32) (hV : V = 2 ^ i) (hlen : x.length ≤ 1073741824) :
    Calls Tryz.prog 107 #[vx, .int .i64 i] w fun e w' => (∃ v, e = .returned v ∧ U32s w' w.heap.size v (digs ((dv x).toNat / V))) ∧ Below w.heap.size w w' := by
  obtain ⟨a, cap, rfl, hc, hm, hcell⟩ := h.open
  unfold maxLen at hm
  have Hcell := Lib.hid hcell
  clear hcell
  have hV0 : 0 < V := by rw [hV]; exact Nat.pow_pos (by omega)
  obtain ⟨q, hq⟩ : ∃ q : Int, q = 2 ^ (32 - i) := ⟨_, rfl⟩
  have HP := Lib.hid (And.intro (show (V : Int) = 2 ^ i by rw [hV]; simp) hq)
  clear hV hq
  have hmk := urun_mk (x.length : Int) x.length rfl (by omega)
  have hmade := U32s.made w x.length (by omega)
  have Hmade := Lib.hid hmade
  clear hmade
  go_enter Tryz.func107, Tryz.ntmps107
  go_wp2_with fail
  clear hmk
  generalize hg : w.heap.size = g at *
  have hbw : Below g w (w.alloc (.cells (uzrow x.length) 84)) := (Below.refl _ _).alloc (by omega) _
  go_loopw [6, 7] (fun c k wr => ∃ (quo : List Int) (r m : Nat), m ≤ x.length ∧ QI x V m quo r ∧ U32s wr g (.slice (some ⟨g, 0, none⟩) x.length x.length) quo ∧ c = .int .u32 (r * q) ∧ k = .int .i64 ((m : Int) - 1) ∧ Below g w wr) (fun _ k _ => (intOf k + 1).toNat)
  case atStart => exact ⟨_, 0, x.length, Nat.le_refl _, QI.start x hV0, Hmade.out, by simp, rfl, hbw⟩
  case round =>
    obtain ⟨quo, r, m, hml, hq, ho, rfl, rfl, hbel⟩ := hrel
    have hrl := hq.lt
    have hql := hq.len
    cases m with
    | zero =>
      have hd := Lib.hid (hq.done (N := (dv x).toNat) (by have := dv_nonneg hx; omega))
      have hdg := hq.dig
      go_wp2_with (go_at_call 92; refine (utrim_any _ _ _ _ hdg ho).mono ?_; rintro e w' ⟨⟨v2, rfl, hv2⟩, rfl⟩)
      go_ret
      subst hg
      exact ⟨⟨v2, rfl, hv2.of_eq (by rw [hd.out.1])⟩, hbel⟩
    | succ m =>
      obtain ⟨gx, hg1, hg2, rfl, hc1⟩ := Hcell.out m (by omega)
      have hc2 : wr.cell? ⟨gx, m, none⟩ = some (.int .u32 x[m]) := by rw [hbel.cell (p := ⟨gx, m, none⟩) (by omega)]; exact hc1
      have em : ((m + 1 : Nat) : Int) - 1 = m := by omega
      rw [em]
      clear em hc1
      have h0 : (0 : Int) ≤ m := by omega
      have h1 : (m : Int) < x.length := by omega
      have hne : gx ≠ g := by omega
      obtain ⟨c1, c2⟩ := ho.at m (by omega)
      have hz := hx.get m (by omega)
      have hst := hq.step (m := m) (by omega) rfl hz.1 hz.2
      have hset := ho.set m
      generalize x[m] = z at hc2 hz hst
      have hst := Lib.hid hst
      have hset := Lib.hid hset
      obtain ⟨hz0, hz1⟩ := hz
      have hoh := or_high (r := (r : Int)) HP.out.1 HP.out.2 hi hz0 hz1 (by omega) (by omega)
      have hrl := rem_low (r := (r : Int)) HP.out.1 HP.out.2 hi hz0 (by omega)
      rw [Int.toNat_natCast] at hoh hrl
      have hoh := Lib.hid hoh
      have hrl := Lib.hid hrl
      go_wp2
      rw [show (2 : Int) ^ i = V from HP.out.1.symm, show (2 : Int) ^ (32 - i) = q from HP.out.2.symm, hoh.out, hrl.out]
      go_roundw
      case rel => exact ⟨_, _, m, by omega, hst.out, hset.out _, rfl, rfl, hbel.setCell (Nat.le_refl _) _⟩
      case measure => first | (simp [intOf]; done) | (simp [intOf]; omega)
set_option maxRecDepth 100000 in
set_option maxHeartbeats 4000000 in
theorem nestimate_any (u0 u1 u2 v0 v1 : Int) (w : World) (a0 : 0 ≤ u0) (a0' : u0 < 4294967296) (a1 : 0 ≤ u1) (a2 : u1 < 4294967296) (a3 : 0 ≤ u2) (a4 : u2 < 4294967296) (b0 : 2147483648 ≤ v0) (b1 : v0 < 4294967296) (c0 : 0 ≤ v1) (c1 : v1 < 4294967296) (hle : u0 ≤ v0) (D : Int) (hES : ES u0 u1 u2 v0 v1 D) :
    Calls Tryz.prog 105 #[.int .u32 u0, .int .u32 u1, .int .u32 u2, .int .u32 v0, .int .u32 v1] w fun e w' => e = .returned (.int .u64 D) ∧ ∃ m, w' = w.drewN m := by
  have HES := Lib.hid hES
  clear hES
  have hei := EI.start a0 a1 a2 a4 b0 b1 c0 hle
  have hor := or_limb u0 u1 a0 a0' a1 a2
  have hq : (u0 * 4294967296 + u1).tdiv v0 = (u0 * 4294967296 + u1) / v0 := Int.tdiv_eq_ediv_of_nonneg (by omega)
  have hr : (u0 * 4294967296 + u1).tmod v0 = (u0 * 4294967296 + u1) % v0 := Int.tmod_eq_emod_of_nonneg (by omega)
  generalize (u0 * 4294967296 + u1) / v0 = D0 at *
  generalize (u0 * 4294967296 + u1) % v0 = L0 at *
  have d0 := hei.d0
  have d1 := hei.d1
  have l0 := hei.l0
  have l1 := hei.l1
  have Hei := Lib.hid hei
  clear hei
  have hv : ¬ v0 = 0 := by omega
  go_enter Tryz.func105, Tryz.ntmps105
  go_wp2
  go_step3
  go_wp2
  go_quiet (fail)
  rename_i nq
  have hbel : ∃ m, w.drewN nq = w.drewN m := ⟨nq, rfl⟩
  have HW := Lib.hid hbel
  clear hbel
  generalize w.drewN nq = wq at *
  clear hor hq hr d0 d1 l0 l1
  go_wp2
  go_step3
  go_wp2
  go_loop [12, 13] (fun d l => ∃ E L : Int, EI u0 u1 u2 v0 v1 E L ∧ d = .int .u64 E ∧ l = .int .u64 L) (fun d _ => (intOf d).toNat)
  case atStart => exact ⟨D0, L0, Hei.out, rfl, rfl⟩
  case round =>
    obtain ⟨E, L, hE, rfl, rfl⟩ := hrel
    have d0 := hE.d0
    have d1 := hE.d1
    have l0 := hE.l0
    have l1 := hE.l1
    obtain ⟨m0, m1⟩ := hE.mul_lt c0 c1
    have hor := or_limb L u2 l0 l1 a3 a4
    by_cases hD : 4294967295 < E
    · have hst := Lib.hid (fun h => hE.step a3 b0 (.inl hD) h)
      have hsp := Lib.hid (fun h => hE.stop a2 a3 c1 hle (.inl hD) h)
      go_wp2
      · go_ret
        exact ⟨ret_int ((hsp.out (by omega)).unique HES.out), HW.out⟩
      · go_round
        case rel => exact ⟨_, _, hst.out (by omega), rfl, rfl⟩
        case measure => simp [intOf]; omega
    · by_cases hm : L * 4294967296 + u2 < E * v1
      · have hd1 : 1 ≤ E := (hE.down a3 (.inr hm)).1
        have hst := Lib.hid (fun h => hE.step a3 b0 (.inr hm) h)
        have hsp := Lib.hid (fun h => hE.stop a2 a3 c1 hle (.inr hm) h)
        go_wp2
        · go_ret
          exact ⟨ret_int ((hsp.out (by omega)).unique HES.out), HW.out⟩
        · go_round
          case rel => exact ⟨_, _, hst.out (by omega), rfl, rfl⟩
          case measure => simp [intOf]; omega
      · have hdn := Lib.hid (hE.done (by omega) (by omega))
        go_wp2
        go_ret
        exact ⟨ret_int (hdn.out.unique HES.out), HW.out⟩
end Go.Proofs.YtfbjboehniakcaaGreatDoor
