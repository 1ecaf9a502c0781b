import Derived.Test.YtkejjbpdhinkkaaDoorB10
import Derived.Test.YtkejjbpdhinkkaaDoorQh
namespace Go.Proofs.YtkejjbpdhinkkaaDoor
open Go.RowKit Pl
open Go.Lib hiding intOf

theorem cutprefix_any (s : ByteArray) (w : World) :
    Calls Tryd.prog 51 #[.string s, .string ⟨#[45]⟩] w fun e w' => e = .returned (.tuple #[.string ⟨(trimPrefix s.data.toList [45]).toArray⟩, .bool (hasPrefix s.data.toList [45])]) ∧ w' = w :=
  Tryd.strings_CutPrefix s ⟨#[45]⟩ w
theorem cutpoint_any (l : List UInt8) (m : Int) (w : World) (hl : l.length < 4294967281) (hm : w.cell? ⟨4, 0, none⟩ = some (.int .i64 m)) :
    Calls Tryd.prog 52 #[.string ⟨l.toArray⟩, .string ⟨#[46]⟩] w fun e w' => e = .returned (.tuple #[.string ⟨(cut l [46]).1.toArray⟩, .string ⟨(cut l [46]).2.1.toArray⟩, .bool (cut l [46]).2.2]) ∧ ∃ n, w' = w.drewN n :=
  Tryd.strings_Cut ⟨l.toArray⟩ ⟨#[46]⟩ m w (by rw [mk_size]; exact hl) hm

set_option maxRecDepth 100000 in
set_option maxHeartbeats 2000000 in
theorem parse_long (s : ByteArray) (w : World) (h : 18 < s.size) :
    Calls Tryd.prog 26 #[.string s] w fun e w' => e = .returned (.tuple #[.agg #[.int .i64 0, .int .i64 0], .bool false]) ∧ Below w.heap.size w w' := by
  go_enter Tryd.func26, Tryd.ntmps26
  go_wp2_with fail
  exact bodyPost_ret (v := .tuple #[.agg #[.int .i64 0, .int .i64 0], .bool false]) (by simp [results, Tryd.results26, go_sem]) rfl ⟨rfl, (Below.refl _ _).alloc (Nat.le_refl _) _⟩

set_option maxRecDepth 100000 in
set_option maxHeartbeats 4000000 in
theorem parse_in (s : ByteArray) (w : World) (hG : Gl w) (h : s.size ≤ 18) :
    Calls Tryd.prog 26 #[.string s] w fun e w' => e = .returned (.tuple #[.agg #[.int .i64 (oN (chkO (pcand s.data.toList) s.data.toList)), .int .i64 (oS (chkO (pcand s.data.toList) s.data.toList))], .bool (oB (chkO (pcand s.data.toList) s.data.toList))]) ∧ Below w.heap.size w w' := by
  obtain ⟨m, hm⟩ := hG.mx
  have hmlt := World.block_lt_of_cell? w _ hm
  have hlen : s.data.toList.length ≤ 18 := by simpa using h
  have htl := trim_len s.data.toList
  have hcl := cut_len (trimPrefix s.data.toList [45])
  have HC := Lib.hid (pcand_eq s.data.toList)
  go_enter Tryd.func26, Tryd.ntmps26
  go_wp2_with fail
  refine (cutprefix_any s _).mono ?_
  rintro e w' ⟨rfl, rfl⟩
  go_wp2_with fail
  refine (cutpoint_any _ m _ (by omega) ?_).mono ?_
  · rw [World.cell?_alloc_lt _ _ _ hmlt]; exact hm
  rintro e w' ⟨rfl, nd, rfl⟩
  generalize hpc : pcand s.data.toList = pc at HC
  have Hpc := Lib.hid hpc
  clear hpc
  generalize (cut (trimPrefix s.data.toList [45]) [46]).1 = bb at *
  generalize (cut (trimPrefix s.data.toList [45]) [46]).2.1 = aa at *
  generalize (cut (trimPrefix s.data.toList [45]) [46]).2.2 = cc at *
  generalize hasPrefix s.data.toList [45] = ng at *
  have hab : bb.length + aa.length ≤ 18 := by omega
  clear htl hcl
  obtain ⟨D, hD⟩ : ∃ D, (⟨bb.toArray⟩ : ByteArray) ++ ⟨aa.toArray⟩ = D := ⟨_, rfl⟩
  have hDl : D.data.toList = bb ++ aa := by rw [← hD]; simp
  have hDs : D.size ≤ 18 := by have := congrArg List.length hDl; simp at this; omega
  have HDl := Lib.hid hDl
  clear hDl
  have hlen18 : ¬ (18 : Int) < (s.size : Int) := by omega
  have hs18 : decide ((18 : Int) < (s.size : Int)) = false := by simp; omega
  go_wp2_with fail
  clear hD hlen18 hs18
  go_loop [9, 10, 33] (fun a b c => ∃ (k : Nat) (n : Int), RI D k n ∧ a = .int .i64 n ∧ c = .int .i64 k) (fun _ _ c => D.size - (intOf c).toNat)
  case atStart => exact ⟨0, 0, RI.start D, rfl, rfl⟩
  case round =>
    obtain ⟨k, n, hR, rfl, rfl⟩ := hrel
    have hk0 := hR.1
    by_cases hlt : k < D.size
    · obtain ⟨n0, n1⟩ := hR.bd hDs hlt
      have hb := D[k].toNat_lt
      by_cases hd0 : 48 ≤ D[k].toNat
      · by_cases hd1 : D[k].toNat ≤ 57
        · go_wp2
          go_round
          case rel => exact ⟨k + 1, _, hR.step hlt hd0 hd1, by first | rfl | exact val_int (by omega), by go_num⟩
          case measure => simp [intOf]; omega
        · have HB := Lib.hid (RI.bad hlt (.inr (by omega)))
          go_wp2
          refine bodyPost_ret (v := .tuple #[.agg #[.int .i64 0, .int .i64 0], .bool false]) (by simp [results, Tryd.results26, go_sem]) rfl ⟨?_, ((below_drewN ((Below.refl _ _).alloc (Nat.le_refl _) _) _).setCell (by simp) _).setCell (by simp) _⟩
          rw [Hpc.out, HC.out, ← HDl.out, HB.out]; rfl
      · have HB := Lib.hid (RI.bad hlt (.inl (by omega)))
        go_wp2
        refine bodyPost_ret (v := .tuple #[.agg #[.int .i64 0, .int .i64 0], .bool false]) (by simp [results, Tryd.results26, go_sem]) rfl ⟨?_, ((below_drewN ((Below.refl _ _).alloc (Nat.le_refl _) _) _).setCell (by simp) _).setCell (by simp) _⟩
        rw [Hpc.out, HC.out, ← HDl.out, HB.out]; rfl
    · obtain ⟨n0, n1⟩ := hR.bd' hDs
      have hdone := hR.done hlt
      obtain ⟨e1, e2⟩ := hdone
      rw [HDl.out] at e1 e2
      have hpc : pc = fitO (if ng = true then -n else n) aa.length := by rw [HC.out, if_pos e1, e2]
      have HPC := Lib.hid hpc
      clear hpc e1 e2
      have hW1 : Below w.heap.size w ((w.alloc (.cells #[.int .i64 0, .int .i64 0] 23)).drewN nd) := below_drewN ((Below.refl _ _).alloc (Nat.le_refl _) _) _
      have bx0 : Box2 ((w.alloc (.cells #[.int .i64 0, .int .i64 0] 23)).drewN nd) w.heap.size (.int .i64 0) (.int .i64 0) := (Box2.new w _ rfl _ _ _).below (below_drewN (Below.refl _ _) _)
      obtain ⟨N, hN, hN0, hN1⟩ : ∃ N : Int, (if ng = true then -n else n) = N ∧ -1000000000000000000 < N ∧ N < 1000000000000000000 := ⟨_, rfl, by split <;> omega, by split <;> omega⟩
      rw [hN] at HPC
      have HN := Lib.hid hN
      clear hN
      have hslot : (ng = true ∧ -n = N) ∨ (ng = false ∧ n = N) := by have := HN.out; cases ng <;> simp at this ⊢ <;> exact this
      rcases hslot with ⟨rfl, hnN⟩ | ⟨rfl, hnN⟩
      all_goals
        go_wp2_with fail
        clear hnN
        refine (dmake_any _ _ _ (by omega) (by omega)).mono ?_
        rw [makeO_in (by omega) (by omega), Int.toNat_natCast, ← HPC.out]
        rintro e w3 ⟨rfl, hb3⟩
        have hW3 := hW1.trans (hb3.mono hW1.size)
        have hz := (bx0.below hb3).lt
        obtain ⟨z0, z1, z2, z3⟩ := bx0.below hb3
        cases pc with
        | none =>
          have o1 : oB none = false := rfl
          have o2 : oN none = 0 := rfl
          have o3 : oS none = 0 := rfl
          go_wp2_with fail
          refine bodyPost_ret (v := .tuple #[.agg #[.int .i64 0, .int .i64 0], .bool false]) (by simp [results, Tryd.results26, go_sem, z0, z1, hz]) rfl ⟨?_, (((hW3.setCell (by simp) _).setCell (by simp) _).alloc (by simp; omega) _)⟩
          rw [Hpc.out]; rfl
        | some p =>
          obtain ⟨p1, p2⟩ := p
          have o1 : oB (some (p1, p2)) = true := rfl
          have o2 : oN (some (p1, p2)) = p1 := rfl
          have o3 : oS (some (p1, p2)) = p2 := rfl
          have hrt := fitO_right HPC.out.symm
          have HV := Lib.hid (v_right hrt)
          have hW4 := hW3.alloc hW3.size (.cells #[.int .i64 p1, .int .i64 p2] 23)
          have bxa := Box2.new w3 _ rfl (.int .i64 p1) (.int .i64 p2) 23
          have bxr := (bx0.below hb3).alloc (.cells #[.int .i64 p1, .int .i64 p2] 23)
          have HCK := Lib.hid (show chkO (some (p1, p2)) s.data.toList = if dtext p1 p2.toNat = s.data.toList then some (p1, p2) else none from rfl)
          go_wp2_with fail
          refine (dtext_any p1 p2 _ (hG.below hW4)).mono ?_
          rw [HV.out.1, HV.out.2]
          rintro e w5 ⟨rfl, hb5⟩
          have hW5 := hW4.trans (hb5.mono hW4.size)
          have hz5 := (bxa.below hb5).lt
          have hz6 := (bxr.below hb5).lt
          obtain ⟨y0, y1, y2, y3⟩ := bxa.below hb5
          obtain ⟨r0, r1, r2, r3⟩ := bxr.below hb5
          clear z0 z1 z2 z3
          generalize dtext p1 p2.toNat = T at *
          have hne : w.heap.size ≠ w3.heap.size := by omega
          by_cases hTs : T = s.data.toList
          · have HO := Lib.hid (show chkO (some (p1, p2)) s.data.toList = some (p1, p2) by rw [HCK.out, if_pos hTs])
            have q1 : (T != s.toList) = false := by rw [ByteArray.toList_eq]; simp [hTs]
            have q2 : (T == s.toList) = true := by rw [ByteArray.toList_eq]; simp [hTs]
            clear hTs
            go_wp2_with fail
            refine bodyPost_ret (v := .tuple #[.agg #[.int .i64 p1, .int .i64 p2], .bool true]) (by simp [results, Tryd.results26, go_sem, r0, r1]) rfl ⟨?_, (hW5.setCell (by simp) _).setCell (by simp) _⟩
            rw [Hpc.out, HO.out]; rfl
          · have HO := Lib.hid (show chkO (some (p1, p2)) s.data.toList = none by rw [HCK.out, if_neg hTs])
            have q1 : (T != s.toList) = true := by rw [ByteArray.toList_eq]; simp [hTs]
            have q2 : (T == s.toList) = false := by rw [ByteArray.toList_eq]; simp [hTs]
            clear hTs
            go_wp2_with fail
            refine bodyPost_ret (v := .tuple #[.agg #[.int .i64 0, .int .i64 0], .bool false]) (by simp [results, Tryd.results26, go_sem, r0, r1]) rfl ⟨?_, (hW5.setCell (by simp) _).setCell (by simp) _⟩
            rw [Hpc.out, HO.out]; rfl

theorem dparse_any (s : ByteArray) (w : World) (hG : Gl w) :
    Calls Tryd.prog 26 #[.string s] w fun e w' => e = .returned (.tuple #[.agg #[.int .i64 (oN (parseO s.data.toList)), .int .i64 (oS (parseO s.data.toList))], .bool (oB (parseO s.data.toList))]) ∧ Below w.heap.size w w' := by
  unfold parseO
  by_cases h : s.data.toList.length ≤ 18
  · rw [if_pos h]; exact parse_in s w hG (by simpa using h)
  · rw [if_neg h]; exact parse_long s w (by simpa using h)
end Go.Proofs.YtkejjbpdhinkkaaDoor
