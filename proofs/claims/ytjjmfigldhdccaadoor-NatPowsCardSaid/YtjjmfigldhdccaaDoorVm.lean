/- Walks of package nat: montgomery. -/
import Derived.Test.YtjjmfigldhdccaaDoorV9
import Derived.Test.YtjjmfigldhdccaaDoorZb
namespace Go.Proofs.YtjjmfigldhdccaaDoor
open Go.RowKit W
open Pl (bv nb bv_nb nb_bv_size bv_lt cmpN)
theorem get_mid2 {out l : List Int} {k k' : Nat} (h : out.length = k) (hk : k ≤ k') (hk' : k' < l.length) : (out ++ l.drop k)[k']'(by simp; omega) = l[k'] := by
  subst h
  rw [List.getElem_append_right hk]
  simp only [List.getElem_drop]
  congr 1; omega
theorem take_small {l : List Int} {k : Nat} (hd : Dig l) (hk : k < l.length) (h : dv (l.take (k + 1)) < 4294967296 ^ k) : dv (l.take k) = dv (l.take (k + 1)) := by
  have e := dv_take_succ hk
  have hb := hd.get k hk
  have hT := dv_take_lt (n := k) hd (by omega)
  have hP := W.pow_pos k
  have hz : l[k] = 0 := by
    rcases (by omega : l[k] = 0 ∨ 1 ≤ l[k]) with h1 | h1
    · exact h1
    · have := Int.mul_le_mul_of_nonneg_left h1 (Int.le_of_lt hP)
      omega
  rw [e, hz]; simp
theorem mont_div (z fac m0 : Int) (h : (fac * m0 + 1) % 4294967296 = 0) : (z * fac % 4294967296 * m0 + z) % 4294967296 = 0 := by
  have e1 : (z * fac % 4294967296 * m0 + z) % 4294967296 = (z * fac * m0 + z) % 4294967296 := by
    rw [Int.add_emod, Int.mul_emod, Int.emod_emod_of_dvd _ (Int.dvd_refl _), ← Int.mul_emod, ← Int.add_emod]
  have e2 : z * fac * m0 + z = z * (fac * m0 + 1) := by grind
  rw [e1, e2, Int.mul_emod, h]
  simp
set_option maxRecDepth 100000 in
set_option maxHeartbeats 8000000 in
theorem nmont_any (la lb lm : List Int) (va vb vm : Value) (n : Nat) (fac : Int) (w : World) (hda : Dig la) (hdb : Dig lb) (hdm : Dig lm) (hla : la.length = n + 1) (hlb : lb.length = n + 1) (hlm : lm.length = n + 1)
    (ha : U32s w 0 va la) (hb : U32s w 0 vb lb) (hm : U32s w 0 vm lm) (hAM : dv la < dv lm) (hfm : (fac * lm[0] + 1) % 4294967296 = 0) (hn : n ≤ 268435456) (M : Nat) (hM : lm = digs M) :
    Calls Tryd.prog 76 #[va, vb, vm, .int .u32 fac] w fun e w' => (∃ v r, e = .returned v ∧ U32s w' w.heap.size v r ∧ Dig r ∧ r.length = n + 1 ∧ dv r < dv lm ∧ ∃ k, 4294967296 ^ (n + 1) * dv r = dv la * dv lb + k * dv lm) ∧ Below w.heap.size w w' := by
  obtain ⟨aa, ca, rfl, hca, hma, hcella⟩ := ha.open
  obtain ⟨ab, cb, rfl, hcb, hmb, hcellb⟩ := hb.open
  obtain ⟨am, cm, rfl, hcm, hmm, hcellm⟩ := hm.open
  unfold maxLen at hma hmb hmm
  have Hcella := Lib.hid hcella
  have Hcellb := Lib.hid hcellb
  have Hcellm := Lib.hid hcellm
  obtain ⟨gm, hgm1, hgm2, rfl, hcm0⟩ := hcellm 0 (by omega)
  clear hcella hcellb hcellm ha hb
  have hA0 := dv_nonneg hda
  have hmade := Lib.hid (U32s.made w (n + 3) (by omega))
  have hmk := urun_mk (((n + 1 : Nat) : Int) + 2) (n + 3) (by omega) (by omega)
  have hmk' := urun_mk ((n : Int) + 1 + 2) (n + 3) (by omega) (by omega)
  have hmk'' := urun_mk ((n : Int) + 3) (n + 3) (by omega) (by omega)
  have HP := Lib.hid (And.intro hda (And.intro hdb (And.intro hdm (And.intro hAM (And.intro hM hfm)))))
  have HL := Lib.hid (And.intro hla (And.intro hlb hlm))
  have Hm := Lib.hid hm
  clear hda hdb hAM hM hfm hm
  go_enter Tryd.func76, Tryd.ntmps76
  go_wp2_with fail
  clear hmk hmk' hmk''
  generalize hg : w.heap.size = g at *
  have hbw : Below g w (w.alloc (.cells (uzrow (n + 3)) 52)) := (Below.refl _ _).alloc (by omega) _
  go_loopw [24] (fun i wr => ∃ (ii : Nat) (t : List Int), ii ≤ n + 1 ∧ U32s wr g (.slice (some ⟨g, 0, none⟩) (n + 3) (n + 3)) t ∧ MO (dv la) (dv lm) lb (n + 1) ii t ∧ i = .int .i64 ii ∧ Below g w wr) (fun i _ => n + 1 - (intOf i).toNat)
  case atStart => exact ⟨0, _, by omega, hmade.out, MO.start lb (n + 1) (by have := HP.out.2.2.2.1; omega), rfl, hbw⟩
  case round =>
    obtain ⟨i, t0, hiu, ho, hmo, rfl, hbel⟩ := hrel
    have ht0l := hmo.len
    have ht0d := hmo.dig
    have Hmo := Lib.hid hmo
    have HO := Lib.hid ho
    clear hmo
    by_cases hlt : i < n + 1
    · have hx := HP.out.2.1.get i (by omega)
      obtain ⟨gb, _, hgb, rfl, hcb⟩ := Hcellb.out i (by omega)
      obtain ⟨x, hxe⟩ : ∃ x, lb[i] = x := ⟨_, rfl⟩
      rw [hxe] at hcb hx
      have HXE := Lib.hid hxe
      obtain ⟨hx0, hx1⟩ := hx
      have Hcb := Lib.hid hcb
      clear hcb hxe ho
      obtain ⟨wo, rfl⟩ : ∃ wo : World, wo = wr := ⟨_, rfl⟩
      go_wp2_with fail
      go_loopw [12, 28] (fun c j wr => ∃ (jj : Nat) (cc : Int) (out : List Int), jj ≤ n + 1 ∧ U32s wr g (.slice (some ⟨g, 0, none⟩) (n + 3) (n + 3)) (out ++ t0.drop jj) ∧ M1 t0 la x jj out cc ∧ c = .int .u64 cc ∧ j = .int .i64 jj ∧ Below g w wr) (fun _ j _ => n + 1 - (intOf j).toNat)
      case atStart => exact ⟨0, 0, [], by omega, by simpa using HO.out, M1.start t0 la x, rfl, rfl, hbel⟩
      case round =>
        obtain ⟨j, c, out, hjv, ho, hm1, rfl, rfl, hbel⟩ := hrel
        have hol := hm1.2.1
        have hc0 := hm1.2.2.1
        have hc1 := hm1.2.2.2.1
        by_cases hlt2 : j < n + 1
        · obtain ⟨ga, _, hga, rfl, hca'⟩ := Hcella.out j (by omega)
          have hca2 : wr.cell? ⟨ga, j, none⟩ = some (.int .u32 la[j]) := by rw [hbel.cell (p := ⟨ga, j, none⟩) hga]; exact hca'
          have hcb2 : wr.cell? ⟨gb, i, none⟩ = some (.int .u32 x) := by rw [hbel.cell (p := ⟨gb, i, none⟩) hgb]; exact Hcb.out
          obtain ⟨c1, c2⟩ := ho.at j (by simp; omega)
          rw [get_mid hol (by omega)] at c1
          have hy := HP.out.1.get j (by omega)
          have hz := ht0d.get j (by omega)
          obtain ⟨y, hye⟩ : ∃ y, la[j] = y := ⟨_, rfl⟩
          obtain ⟨z, hze⟩ : ∃ z, t0[j] = z := ⟨_, rfl⟩
          have hset := Lib.hid (fun q nq => ((ho.drewN nq).set j q).of_eq (set_mid hol (by omega) q))
          have hnx := Lib.hid (hm1.succ (by omega) (by omega) hye hze hx0 hx1 (by omega) (by omega) (by omega) (by omega))
          rw [hye] at hca2 hy
          rw [hze] at c1 hz
          have hbd := hm1.bound hx0 hx1 hy.1 hy.2 hz.1 hz.2
          obtain ⟨b1, b2, b3, b4, b5⟩ := hbd
          obtain ⟨y0, y1⟩ := hy
          obtain ⟨z0, z1⟩ := hz
          have k1 : (j : Int) < (n : Int) + 3 := by omega
          have k1' : (j : Int) < ((n + 3 : Nat) : Int) := by omega
          clear hca' hye hze
          go_wp2
          go_quiet (fail)
          go_wp2
          go_roundw
          case rel => exact ⟨j + 1, _, _, by omega, hset.out _ _, hnx.out, rfl, by go_num, (below_drewN hbel _).setCell (p := ⟨g, j, none⟩) (Nat.le_refl _) _⟩
          case measure => simp [intOf]; omega
        · obtain rfl : j = n + 1 := by omega
          obtain ⟨z, hze⟩ : ∃ z, t0[n + 1] = z := ⟨_, rfl⟩
          have hz := ht0d.get (n + 1) (by omega)
          obtain ⟨c1, c2⟩ := ho.at (n + 1) (by simp; omega)
          rw [get_mid hol (by omega), hze] at c1
          obtain ⟨d1, d2⟩ := ho.at (n + 1 + 1) (by simp; omega)
          have hrow := Lib.hid (hm1.row (s := z + c) hla (by omega) ht0d hze rfl)
          rw [hze] at hz
          obtain ⟨z0, z1⟩ := hz
          have hset1 := (ho.set (n + 1) ((z + c) % 4294967296)).of_eq (set_mid hol (by omega) _)
          have hset2 := (hset1.set (n + 1 + 1) ((z + c) / 4294967296)).of_eq (l' := out ++ [(z + c) % 4294967296, (z + c) / 4294967296]) (by rw [set_mid (by simp [hol]) (by omega), List.drop_of_length_le (by omega)]; simp)
          have hb2 := (hbel.setCell (p := ⟨g, n + 1, none⟩) (Nat.le_refl _) (.int .u32 ((z + c) % 4294967296))).setCell (p := ⟨g, n + 1 + 1, none⟩) (Nat.le_refl _) (.int .u32 ((z + c) / 4294967296))
          have Hset2 := Lib.hid hset2
          have Hb2 := Lib.hid hb2
          clear hset1 hset2 hb2 hze
          have k1 : (n : Int) + 1 < (n : Int) + 3 := by omega
          have k1' : (n : Int) + 1 < ((n + 3 : Nat) : Int) := by omega
          have k2 : (n : Int) + 1 + 1 < (n : Int) + 3 := by omega
          have k2' : (n : Int) + 1 + 1 < ((n + 3 : Nat) : Int) := by omega
          go_upto_region 15 with fail
          have hw2 := Hset2.out
          have hb2 := Hb2.out
          generalize (wr.setCell ⟨g, n + 1, none⟩ (.int .u32 ((z + c) % 4294967296))).setCell ⟨g, n + 1 + 1, none⟩ (.int .u32 ((z + c) / 4294967296)) = ws at *
          have hrow2 := hrow.out
          generalize out ++ [(z + c) % 4294967296, (z + c) / 4294967296] = t1 at *
          obtain ⟨ht1d, ht1l, ht1v⟩ := hrow2
          have Ht1v := Lib.hid ht1v
          clear hrow Hset2 Hb2 ho hbel hm1 c1 c2 d1 d2 k1 k1' k2 k2' ht1v
          clear hol hc0 hc1 hjv z0 z1
          obtain ⟨c1, c2⟩ := hw2.at 0 (by omega)
          have hz := ht1d.get 0 (by omega)
          have hmz := hdm.get 0 (by omega)
          obtain ⟨z, hze⟩ : ∃ z, t1[0] = z := ⟨_, rfl⟩
          obtain ⟨m0, hme⟩ : ∃ m0, lm[0] = m0 := ⟨_, rfl⟩
          have hcm1 : ws.cell? ⟨gm, 0, none⟩ = some (.int .u32 lm[0]) := by rw [hb2.cell (p := ⟨gm, 0, none⟩) hgm2]; exact hcm0
          have hst := M2.start (f := z * fac % 4294967296) (by omega) (by omega) hze hme (by omega) (by omega) (by omega) (by omega) (by omega) (by omega) (mont_div z fac m0 (by rw [← hme]; exact HP.out.2.2.2.2.2))
          rw [hze] at c1 hz
          rw [hme] at hcm1 hmz
          clear hze hme
          obtain ⟨f, hfe⟩ : ∃ f, f = z * fac % 4294967296 := ⟨_, rfl⟩
          have hff : 0 ≤ f ∧ f < 4294967296 := by omega
          rw [← hfe] at hst
          obtain ⟨hm2, s1, s2⟩ := hst
          have Hm2 := Lib.hid hm2
          have hfe2 := hfe.symm
          clear hm2 hfe
          obtain ⟨z0, z1⟩ := hz
          obtain ⟨m00, m01⟩ := hmz
          obtain ⟨f0, f1⟩ := hff
          go_wp2
          go_quiet (fail)
          rename_i nq
          have hw3 := hw2.drewN nq
          have hb3 := below_drewN hb2 nq
          rw [hfe2]
          clear c1 c2 hcm1 hw2 hb2 hfe2 s1 s2 z0 z1 m00 m01
          generalize ws.drewN nq = wt at *
          have Hw3 := Lib.hid hw3
          have Hb3 := Lib.hid hb3
          clear hw3 hb3
          go_wp2
          go_loopw [12, 17] (fun c j wr => ∃ (k : Nat) (cc : Int) (out : List Int), k ≤ n ∧ U32s wr g (.slice (some ⟨g, 0, none⟩) (n + 3) (n + 3)) (out ++ t1.drop k) ∧ M2 t1 lm f k out cc ∧ c = .int .u64 cc ∧ j = .int .i64 ((k : Int) + 1) ∧ Below g w wr) (fun _ j _ => n + 2 - (intOf j).toNat)
          case atStart => exact ⟨0, _, [], by omega, by simpa using Hw3.out, Hm2.out, rfl, rfl, Hb3.out⟩
          case round =>
            obtain ⟨k, c, out, hkn, ho, hm2, rfl, rfl, hbel⟩ := hrel
            have hol := hm2.2.1
            have hc0 := hm2.2.2.1
            have hc1 := hm2.2.2.2.1
            by_cases hlt3 : k < n
            · obtain ⟨gm', _, hgm2', hge, hcm'⟩ := Hcellm.out (k + 1) (by omega)
              obtain rfl : gm = gm' := by simpa using hge
              have hcm2 : wr.cell? ⟨gm, k + 1, none⟩ = some (.int .u32 lm[k + 1]) := by rw [hbel.cell (p := ⟨gm, k + 1, none⟩) hgm2]; exact hcm'
              obtain ⟨c1, c2⟩ := ho.at (k + 1) (by simp; omega)
              rw [get_mid2 hol (by omega) (by omega)] at c1
              obtain ⟨d1, d2⟩ := ho.at k (by simp; omega)
              have hy := hdm.get (k + 1) (by omega)
              have hz := ht1d.get (k + 1) (by omega)
              obtain ⟨y, hye⟩ : ∃ y, lm[k + 1] = y := ⟨_, rfl⟩
              obtain ⟨z, hze⟩ : ∃ z, t1[k + 1] = z := ⟨_, rfl⟩
              have hset := Lib.hid (fun q nq => ((ho.drewN nq).set k q).of_eq (set_mid hol (by omega) q))
              rw [hye] at hcm2 hy
              rw [hze] at c1 hz
              obtain ⟨y0, y1⟩ := hy
              obtain ⟨z0, z1⟩ := hz
              have hnx := Lib.hid (hm2.succ (by omega) (by omega) hye hze f0 f1 y0 y1 z0 z1)
              obtain ⟨b1, b2, b3, b4, b5⟩ := hm2.bound f0 f1 y0 y1 z0 z1
              have k1 : (k : Int) + 1 < (n : Int) + 3 := by omega
              have k1' : (k : Int) + 1 < ((n + 3 : Nat) : Int) := by omega
              have k4 : (k : Int) + 1 < (n : Int) + 1 := by omega
              clear hcm' hye hze hge
              go_wp2
              go_quiet (fail)
              go_wp2
              go_roundw
              case rel => exact ⟨k + 1, _, _, by omega, hset.out _ _, hnx.out, rfl, by go_num, (below_drewN hbel _).setCell (p := ⟨g, k, none⟩) (Nat.le_refl _) _⟩
              case measure => simp [intOf]; omega
            · obtain rfl : n = k := by omega
              obtain ⟨z, hze⟩ : ∃ z, t1[n + 1] = z := ⟨_, rfl⟩
              obtain ⟨u, hue⟩ : ∃ u, t1[n + 2] = u := ⟨_, rfl⟩
              obtain ⟨c1, c2⟩ := ho.at (n + 1) (by simp; omega)
              rw [get_mid2 hol (by omega) (by omega), hze] at c1
              obtain ⟨d1, d2⟩ := ho.at n (by simp; omega)
              have hz := ht1d.get (n + 1) (by omega)
              have hub := ht1d.get (n + 2) (by omega)
              rw [hze] at hz
              rw [hue] at hub
              obtain ⟨hr1, hr2, hr3, hr4⟩ := hm2.row hlm ht1l ht1d hze hue (s := z + c) rfl rfl
              obtain ⟨s, hs⟩ : ∃ s, s = z + c := ⟨_, rfl⟩
              have hset1 := (ho.set n ((z + c) % 4294967296)).of_eq (set_mid hol (by omega) _)
              have hb2 := hbel.setCell (p := ⟨g, n, none⟩) (Nat.le_refl _) (.int .u32 ((z + c) % 4294967296))
              have Hset1 := Lib.hid hset1
              have Hb2 := Lib.hid hb2
              obtain ⟨z0, z1⟩ := hz
              have k1 : (n : Int) + 1 < (n : Int) + 3 := by omega
              have k1' : (n : Int) + 1 < ((n + 3 : Nat) : Int) := by omega
              have k2 : (n : Int) < (n : Int) + 3 := by omega
              have k2' : (n : Int) < ((n + 3 : Nat) : Int) := by omega
              have HR := Lib.hid (And.intro hr1 hub)
              clear hset1 hb2 hr1 hub
              go_upto_region 24 with fail
              have hw4 := Hset1.out
              have hb4 := Hb2.out
              generalize wr.setCell ⟨g, n, none⟩ (.int .u32 ((z + c) % 4294967296)) = w4 at *
              clear c1 c2 d1 d2 k2 k2'
              have hub := HR.out.2
              have hu1 : u + (z + c) / 4294967296 ≤ 1 := by
                refine Hmo.out.small (t1 := t1) (x := x) (f := f) (lo := dv out + 4294967296 ^ n * ((z + c) % 4294967296)) (P := 4294967296 ^ (n + 1)) hx0 hx1 hA0 HP.out.2.2.2.1 f1 Ht1v.out (W.pow_pos _) ?_ ?_ HR.out.1
                · have := dv_lt hdm; rw [hlm] at this; omega
                · have h8 := dv_nonneg hm2.1
                  have h9 : (0 : Int) ≤ 4294967296 ^ n * ((z + c) % 4294967296) := Int.mul_nonneg (Int.le_of_lt (W.pow_pos _)) (by omega)
                  omega
              obtain ⟨r1, r2, r3⟩ := fin_row (r := (z + c) % 4294967296) (u := u + (z + c) / 4294967296) hm2.1 hol ht1d ht1l (by omega) (by omega) (by omega) hu1
              obtain ⟨c1, c2⟩ := hw4.at (n + 1 + 1) (by simp; omega)
              rw [get_mid2 (by simp [hol]) (by omega) (by omega), hue] at c1
              obtain ⟨d1, d2⟩ := hw4.at (n + 1) (by simp; omega)
              have hset := Lib.hid ((hw4.set (n + 1) (u + (z + c) / 4294967296)).of_eq (set_mid (by simp [hol]) (by omega) _))
              have hnx := Lib.hid (Hmo.out.step (by omega) HXE.out hx0 hx1 hA0 HP.out.2.2.2.1 f0 f1 Ht1v.out r1 r2 (by rw [r3]; exact HR.out.1))
              have hb5 := Lib.hid (hb4.setCell (p := ⟨g, n + 1, none⟩) (Nat.le_refl _) (.int .u32 (u + (z + c) / 4294967296)))
              obtain ⟨u0, u1⟩ := hub
              have k5 : 0 ≤ (z + c) / 4294967296 := by omega
              have k6 : (z + c) / 4294967296 < 4294967296 := by omega
              have k2 : (n : Int) + 1 + 1 < (n : Int) + 3 := by omega
              have k2' : (n : Int) + 1 + 1 < ((n + 3 : Nat) : Int) := by omega
              clear r1 r2 r3 hze hue hr2 hr3 hr4
              go_wp2
              go_roundw
              case rel => exact ⟨i + 1, _, by omega, hset.out, hnx.out, by go_num, hb5.out⟩
              case measure => simp [intOf]; omega
    · obtain rfl : i = n + 1 := by omega
      have hTd := ht0d.take (n + 2)
      have ht := U32s.take (n := n + 2) (a := some ⟨g, 0, none⟩) (cap := n + 3) (l := t0) (by rw [ht0l]; exact HO.out) (by omega) (by omega)
      obtain ⟨T, hT⟩ := Int.eq_ofNat_of_zero_le (dv_nonneg hTd)
      obtain ⟨k, hk⟩ := Hmo.out.val
      have hlt2 := Hmo.out.lt
      rw [List.take_of_length_le (by omega : lb.length ≤ n + 1)] at hk
      rw [show n + 1 + 1 = n + 2 from rfl, hT] at hk hlt2
      have hTl : (t0.take (n + 2)).length = n + 2 := by rw [List.length_take]; omega
      have hMd : dv lm = (M : Int) := by rw [HP.out.2.2.2.2.1, dv_digs]
      have hMl : (M : Int) < 4294967296 ^ (n + 1) := by have := dv_lt hdm; rw [hlm, hMd] at this; exact this
      have HF := Lib.hid (And.intro hT (And.intro hk (And.intro hlt2 (And.intro hMd hMl))))
      have hm1 := Hm.out.extend (by rw [hg]; exact hbel)
      have hm2 := hm1.of_eq HP.out.2.2.2.2.1
      rw [hlm] at hm1 hm2
      have HT := Lib.hid ht
      have Hm1 := Lib.hid hm1
      have HM2 := Lib.hid hm2
      have HTL := Lib.hid hTl
      have hgg : gm ≠ g := by omega
      have hlmM : lm.length ≤ n + 2 := by omega
      have HLM := Lib.hid hlmM
      clear hT hk hlt2 hMd hMl hm1 hm2 ho ht hTl hlmM
      have s1 : (n : Int) + 1 + 1 ≤ (n : Int) + 3 := by omega
      have s1' : (n : Int) + 1 + 1 ≤ ((n + 3 : Nat) : Int) := by omega
      have s2 : ((n : Int) + 1 + 1).toNat = n + 2 := by omega
      have s3 : ((n : Int) + 1).toNat = n + 1 := by omega
      have s4 : (n : Int) + 1 ≤ (n : Int) + 3 := by omega
      have s4' : (n : Int) + 1 ≤ ((n + 3 : Nat) : Int) := by omega
      go_wp2_with (go_at_call 68; refine (utrim_any (t0.take (n + 2)) _ g _ hTd HT.out).mono ?_; rintro e w' ⟨⟨v2, rfl, hv2⟩, rfl⟩)
      rw [HF.out.1, Int.toNat_natCast] at hv2
      have hv20 := hv2.low (Nat.zero_le g)
      rcases Nat.lt_or_ge T M with hTM | hTM
      · refine (ncompare_any T M v2 _ 0 _ hv20 HM2.out).mono ?_
        rw [Pl.cmpN_lt hTM]
        rintro e w5 ⟨rfl, hb5⟩
        have hbl := hbel.trans (hb5.mono (by have := hbel.size; omega))
        have hT5 := Lib.hid ((HO.out.below hb5).of_eq rfl)
        have hlt5 := Lib.hid hTM
        clear hv2 hv20 hTM
        go_wp2_with fail
        go_ret
        have hr := U32s.take (n := n + 1) (a := some ⟨g, 0, none⟩) (cap := n + 3) (l := t0) (by rw [ht0l]; exact hT5.out) (by omega) (by omega)
        have e1 := take_small (l := t0) (k := n + 1) ht0d (by omega) (by have := HF.out.1; have := HF.out.2.2.2.2; have := hlt5.out; rw [show n + 1 + 1 = n + 2 from rfl]; omega)
        have hk := HF.out.2.1
        have hM2 := HF.out.2.2.2.1
        have hT2 := HF.out.1
        rw [show n + 1 + 1 = n + 2 from rfl] at e1
        subst hg
        refine ⟨⟨_, t0.take (n + 1), rfl, hr, ht0d.take _, by rw [List.length_take]; omega, ?_, k, ?_⟩, hbl⟩
        · rw [e1, hT2, hM2]; exact Int.ofNat_lt.2 hlt5.out
        · rw [e1, hT2]; exact hk
      · refine (ncompare_any T M v2 _ 0 _ hv20 HM2.out).mono ?_
        have hc : 0 ≤ cmpN T M := by unfold cmpN; split <;> first | omega | (split <;> omega)
        generalize cmpN T M = c at hc
        rintro e w5 ⟨rfl, hb5⟩
        have hbl := hbel.trans (hb5.mono (by have := hbel.size; omega))
        have ht5 := Lib.hid (HT.out.below hb5)
        have hm5 := Lib.hid (Hm1.out.below hb5)
        have hTM5 := Lib.hid hTM
        clear hv2 hv20 hTM
        go_wp2_with fail
        have hsub := nsubtract_call (t0.take (n + 2)) lm (.slice (some ⟨g, 0, none⟩) (n + 2) (n + 3)) (.slice (some ⟨gm, 0, none⟩) (n + 1) cm) g w5 hTd hdm ht5.out hm5.out (fun k e e2 => hgg (by cases e; cases e2; rfl)) (by rw [HTL.out]; omega) (by rw [HF.out.1, HF.out.2.2.2.1]; exact Int.ofNat_le.2 hTM5.out)
        refine hsub.mono ?_
        rintro e w6 ⟨⟨vr, rfl⟩, ⟨out, hod, hol, hoe, hou⟩, hg6⟩
        have hb6 := hbl.grown hg6 (by have := hbl.size; omega) (fun k e => by cases e; exact Nat.le_refl _)
        rw [HTL.out] at hol
        have hM2 := HF.out.2.2.2.1
        have hT2 := HF.out.1
        have hlt2 := HF.out.2.2.1
        have hMl := HF.out.2.2.2.2
        have hk := HF.out.2.1
        rw [hT2, hM2] at hoe
        rw [hM2] at hlt2 hk
        have HE := Lib.hid (And.intro hoe (And.intro hlt2 (And.intro hMl (And.intro hk hM2))))
        clear hoe hlt2 hMl hk hM2 hT2 hsub
        have hr := Lib.hid (U32s.take (n := n + 1) (a := some ⟨g, 0, none⟩) (cap := n + 3) (l := out) (by rw [hol]; exact hou) (by omega) (by omega))
        go_wp2_with fail
        go_ret
        obtain ⟨hoe, hlt2, hMl, hk, hM2⟩ := HE.out
        have e1 := take_small (l := out) (k := n + 1) hod (by omega) (by rw [List.take_of_length_le (l := out) (i := n + 1 + 1) (by omega), hoe]; omega)
        rw [List.take_of_length_le (l := out) (i := n + 1 + 1) (by omega)] at e1
        subst hg
        refine ⟨⟨_, out.take (n + 1), rfl, hr.out, hod.take _, by rw [List.length_take]; omega, ?_, k - 4294967296 ^ (n + 1), ?_⟩, hb6⟩
        · rw [e1, hoe, hM2]; omega
        · rw [e1, hoe, hM2, Int.mul_sub, hk, Int.sub_mul]; omega
end Go.Proofs.YtjjmfigldhdccaaDoor
