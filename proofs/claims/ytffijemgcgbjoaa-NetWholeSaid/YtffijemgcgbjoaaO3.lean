/- NetWhole. -/
import Derived.Test.YtffijemgcgbjoaaNi
namespace Go.Proofs.Ytffijemgcgbjoaa
open Go.RowKit Nt

def wel (d : Int) (i : Nat) (m : Msg) : Wt := ⟨10 * i + d, i, m.fr, m.to, m.text⟩
/-- what is delivered of the messages from number i on -/
def dl (n d : Int) : Nat → List Msg → List Wt
  | _, [] => []
  | i, m :: r => if nodeB n m.to then wel d i m :: dl n d (i + 1) r else dl n d (i + 1) r
theorem dl_snoc (n d : Int) (m : Msg) : ∀ (i : Nat) (l : List Msg), dl n d i (l ++ [m]) = dl n d i l ++ (if nodeB n m.to then [wel d (i + l.length) m] else [])
  | i, [] => by simp [dl]
  | i, x :: l => by
    have h := dl_snoc n d m (i + 1) l
    simp only [List.cons_append, dl, List.length_cons]
    rw [h, show i + 1 + l.length = i + (l.length + 1) by omega]
    split <;> simp
theorem mem_dl {n d : Int} {x : Wt} : ∀ {i : Nat} {l : List Msg}, x ∈ dl n d i l → ∃ j m, i ≤ j ∧ j < i + l.length ∧ x = wel d j m
  | i, [], h => by simp [dl] at h
  | i, m :: l, h => by
    simp only [dl] at h
    split at h
    · rcases List.mem_cons.1 h with rfl | h
      · exact ⟨i, m, by omega, by simp, rfl⟩
      · obtain ⟨j, m', h1, h2, rfl⟩ := mem_dl h
        exact ⟨j, m', by omega, by simp; omega, rfl⟩
    · obtain ⟨j, m', h1, h2, rfl⟩ := mem_dl h
      exact ⟨j, m', by omega, by simp; omega, rfl⟩
def ws0 (n d : Int) : NS := .new n [⟨false, 0, d⟩]
def wS (n d : Int) (ml : List Msg) : Nat → NS
  | 0 => ws0 n d
  | k + 1 => (wS n d ml k).send (10 * k) (mat ml k)
theorem wS_sent (n d : Int) (ml : List Msg) : ∀ k, (wS n d ml k).sent = k
  | 0 => rfl
  | k + 1 => by rw [show (wS n d ml (k + 1)).sent = (wS n d ml k).sent + 1 from rfl, wS_sent n d ml k]
theorem wS_const (n d : Int) (ml : List Msg) : ∀ k, (wS n d ml k).nodes = n ∧ (wS n d ml k).script = [⟨false, 0, d⟩] ∧ (wS n d ml k).gr = fun _ => 0
  | 0 => ⟨rfl, rfl, rfl⟩
  | k + 1 => wS_const n d ml k
theorem wS_trb (n d : Int) (ml : List Msg) (k : Nat) : (wS n d ml k).trb = ⟨false, 0, d⟩ := by
  unfold NS.trb
  rw [(wS_const n d ml k).2.1]
  simp [Nat.mod_one]
theorem wS_goes (n d : Int) (ml : List Msg) (k : Nat) (m : Msg) : (wS n d ml k).goes m = nodeB n m.to := by
  unfold NS.goes NS.node
  rw [wS_trb, (wS_const n d ml k).1, (wS_const n d ml k).2.2]
  simp
theorem take_snoc (ml : List Msg) (k : Nat) (h : k < ml.length) : ml.take (k + 1) = ml.take k ++ [mat ml k] := by
  rw [List.take_succ_eq_append_getElem h]; simp [mat, h]
theorem wS_L (n d : Int) (hd : 0 ≤ d) (ml : List Msg) : ∀ k, k ≤ ml.length → (wS n d ml k).L = dl n d 0 (ml.take k)
  | 0, _ => rfl
  | k + 1, h => by
    have ih := wS_L n d hd ml k (by omega)
    rw [take_snoc ml k (by omega), dl_snoc, ← ih]
    show (if (wS n d ml k).goes (mat ml k) then insUpto (10 * k) (wS n d ml k).trb.delay (wS n d ml k).sent (mat ml k) (wS n d ml k).L (num (wS n d ml k).trb.copies) else (wS n d ml k).L) = _
    rw [wS_goes, wS_trb, wS_sent]
    split
    · rw [show num (⟨false, 0, d⟩ : Trb).copies = 1 from rfl]
      simp only [insUpto]
      have hl : (ml.take k).length = k := by simp; omega
      have e : cop (10 * k) d k (mat ml k) 0 = wel d (0 + (ml.take k).length) (mat ml k) := by
        rw [hl, Nat.zero_add]
        unfold cop wel
        congr 1
        have : max d 0 = d := by omega
        rw [this]; simp
      rw [e]
      refine ins_last (fun y hy => ?_)
      rw [ih] at hy
      obtain ⟨j, m', _, h2, rfl⟩ := mem_dl hy
      rw [hl] at h2 ⊢
      left
      simp only [wel]; omega
    · simp
def wN (n d : Int) (ml : List Msg) : Nat → NS
  | 0 => wS n d ml ml.length
  | k + 1 => if nodeB n (mat ml k).to then (wN n d ml k).next else wN n d ml k
theorem wN_sent (n d : Int) (ml : List Msg) : ∀ k, (wN n d ml k).sent = ml.length
  | 0 => wS_sent n d ml _
  | k + 1 => by
    have := wN_sent n d ml k
    unfold wN
    split
    · exact this
    · exact this
theorem drop_cons (ml : List Msg) (k : Nat) (h : k < ml.length) : ml.drop k = mat ml k :: ml.drop (k + 1) := by
  rw [List.drop_eq_getElem_cons h]; simp [mat, h]
theorem wN_L (n d : Int) (hd : 0 ≤ d) (ml : List Msg) : ∀ k, k ≤ ml.length → (wN n d ml k).L = dl n d k (ml.drop k)
  | 0, _ => by rw [wN, wS_L n d hd ml _ (Nat.le_refl _)]; simp
  | k + 1, h => by
    have ih := wN_L n d hd ml k (by omega)
    rw [drop_cons ml k (by omega)] at ih
    unfold wN
    simp only [dl] at ih
    split
    · rename_i hn
      rw [if_pos hn] at ih
      show (wN n d ml k).L.tail = _
      rw [ih]; rfl
    · rename_i hn
      rw [if_neg hn] at ih
      exact ih
theorem wN_cons (n d : Int) (hd : 0 ≤ d) (ml : List Msg) (k : Nat) (hk : k < ml.length) (hn : nodeB n (mat ml k).to = true) : (wN n d ml k).L = wel d k (mat ml k) :: dl n d (k + 1) (ml.drop (k + 1)) := by
  rw [wN_L n d hd ml k (by omega), drop_cons ml k hk]
  simp only [dl]
  rw [if_pos hn]
theorem wN_end (n d : Int) (hd : 0 ≤ d) (ml : List Msg) : (wN n d ml ml.length).L = [] := by
  rw [wN_L n d hd ml _ (Nat.le_refl _)]; simp [dl]
set_option maxRecDepth 100000 in
set_option maxHeartbeats 8000000 in
theorem whole_walk (v : Value) (l : List Msg) (nn dd : Int) (W : World) (hv : MsgR W v l) (n0 : 0 ≤ nn) (n1 : nn ≤ 255) (d0 : 0 ≤ dd) (d1 : dd ≤ 65535) :
    Calls Try.prog 6 #[v, .int .u8 nn, .int .u16 dd] W fun e w' => e = .returned (.bool true) ∧ Below W.heap.size W w' := by
  obtain ⟨a, cap, rfl, hlc, hcm, hcell⟩ := id hv
  obtain ⟨N, hN⟩ : ∃ N : Nat, N = min l.length 30 := ⟨_, rfl⟩
  have hml := hv.take N (by omega)
  have hlen : (l.take N).length = N := by simp; omega
  obtain ⟨ml, hml2⟩ : ∃ ml, ml = l.take N := ⟨_, rfl⟩
  rw [← hml2] at hml hlen
  have hN30 : N ≤ 30 := by omega
  have HNm := Lib.hid hN
  have HLE := Lib.hid hlen
  have hNl : N ≤ l.length := by omega
  clear hml2 hcell hlen hN
  have i0 : (0 : Int) ≤ (N : Int) := by omega
  have i1 : (N : Int) ≤ (cap : Int) := by omega
  have hn5 : nn % 5 ≤ 1000 := by omega
  have hd0 : 0 ≤ dd % 1000 := by omega
  have hd1 : dd % 1000 ≤ 999 := by omega
  go_enter Try.func6, Try.ntmps6
  go_upto_region 4 with (first
    | (go_at_call 11; ((with_reducible refine (sanity_any _).mono ?_); rintro e w1 ⟨rfl, hb1⟩; have hT := Tbs.lit w1 [⟨false, 0, dd % 1000⟩] #[.bool false, .int .i64 0, .int .i64 (dd % 1000)] 1 rfl rfl (by simp)))
    | (go_at_call 13; ((with_reducible refine (new_any _ 0 (nn % 5) _ _ hT (by simp) hn5).mono ?_); intro e w2 hret; obtain ⟨p, rfl, hN2⟩ := lawN_of_new (W := W) (R := []) (hb1.alloc hb1.size _) hret (by simp))))
  generalize hdd : dd % 1000 = d at *
  generalize hnn : nn % 5 = n at *
  have HDD := Lib.hid hdd
  have HNN := Lib.hid hnn
  clear hdd hnn hT hret
  go_cut [0] (fun s wx => s = .slice a N cap ∧ wx = w2)
  case first =>
    have j0 : (0 : Int) ≤ (l.length : Int) := by omega
    have j1 : (l.length : Int) ≤ (cap : Int) := by omega
    by_cases h30 : l.length < 30
    · go_wp2_with fail
      all_goals go_meet
      all_goals exact ⟨congrArg (Value.slice a · cap) (by have := HNm.out; omega), rfl⟩
    · have j2 : (30 : Int) ≤ (cap : Int) := by omega
      go_wp2_with fail
      all_goals go_meet
      all_goals exact ⟨congrArg (Value.slice a · cap) (by have := HNm.out; omega), rfl⟩
  case rest =>
    obtain ⟨rfl, rfl⟩ := hcut
    go_wp2_with fail
    go_loopw [10] (fun i wr => ∃ k : Nat, k ≤ N ∧ i = .int .i64 k ∧ LawN W wr p (wS n d ml k) []) (fun i _ => N - (intOf i).toNat)
    case atStart => exact ⟨0, Nat.zero_le _, rfl, hN2⟩
    case round =>
      obtain ⟨k, hk, rfl, hn2⟩ := hrel
      clear hN2
      by_cases hlt : k < N
      · obtain ⟨a', cap', ea, _, _, hcl⟩ := hml.below hn2.bel
        rw [HLE.out] at ea hcl
        simp only [Value.slice.injEq, true_and] at ea
        obtain ⟨rfl, rfl⟩ := ea
        obtain ⟨b, off, rfl, hbl, hcl⟩ := hcl (by omega)
        obtain ⟨c0, c1, c2⟩ := hcl k hlt
        clear hcl
        have k0 : (0 : Int) ≤ (k : Int) := by omega
        have k1 : (k : Int) < (N : Int) := by omega
        have HT := Lib.hid (show wS n d ml (k + 1) = (wS n d ml k).send (10 * k) ⟨(mat ml k).fr, (mat ml k).to, (mat ml k).text⟩ from rfl)
        have HS := Lib.hid (show (wS n d ml k).sent ≤ 9000 by rw [wS_sent]; omega)
        have HG := Lib.hid (show -1000000000000 ≤ (10 * (k : Int)) ∧ (10 * (k : Int)) ≤ 1000000000000 ∧ (wS n d ml k).trb.delay ≤ 1000000000000 by rw [wS_trb]; exact ⟨by omega, by omega, by simp only; omega⟩)
        generalize mat ml k = x at c0 c1 c2 HT
        go_wp2_with (first | (go_at_call 15; ((with_reducible refine (send_law _ _ _ _ hn2 HS.out (fun _ => HG.out)).mono ?_); rintro e w3 ⟨rfl, hn3⟩)))
        go_roundw
        case rel => exact ⟨k + 1, by omega, by go_num, by rw [HT.out]; exact hn3⟩
        case measure => simp [intOf]; omega
      · obtain rfl : k = N := by omega
        have hn3 : LawN W wr p (wN n d ml 0) [] := by rw [show wN n d ml 0 = wS n d ml ml.length from rfl, HLE.out]; exact hn2
        clear hn2
        obtain ⟨wo, hwo⟩ : ∃ wo : World, wo = wr := ⟨_, rfl⟩
        subst hwo
        go_wp2_with fail
        go_loopw [11, 12, 13, 14] (fun i _ _ _ wr => ∃ k' : Nat, k' ≤ k ∧ i = .int .i64 k' ∧ LawN W wr p (wN n d ml k') []) (fun i _ _ _ _ => k - (intOf i).toNat)
        case atStart => exact ⟨0, Nat.zero_le _, rfl, hn3⟩
        case round =>
          obtain ⟨j, hj, rfl, hn4⟩ := hrel
          clear hn3
          by_cases hlt2 : j < k
          · obtain ⟨a', cap', ea, _, _, hcl⟩ := hml.below hn4.bel
            rw [HLE.out] at ea hcl
            simp only [Value.slice.injEq, true_and] at ea
            obtain ⟨rfl, rfl⟩ := ea
            clear hcl
            obtain ⟨a', cap', ea, _, _, hcW⟩ := hml
            rw [HLE.out] at ea hcW
            simp only [Value.slice.injEq, true_and] at ea
            obtain ⟨rfl, rfl⟩ := ea
            obtain ⟨b, off, rfl, hbW, hcW⟩ := hcW (by omega)
            have c0 := (hn4.bel.cell (p := ⟨b, _, none⟩) hbW).trans (hcW j hlt2).1
            have c1 := (hn4.bel.cell (p := ⟨b, _, none⟩) hbW).trans (hcW j hlt2).2.1
            have c2 := (hn4.bel.cell (p := ⟨b, _, none⟩) hbW).trans (hcW j hlt2).2.2
            have k0 : (0 : Int) ≤ (j : Int) := by omega
            have k1 : (j : Int) < (k : Int) := by omega
            by_cases hnode : nodeB n (mat ml j).to = true
            · have hL := wN_cons n d hd0 ml j (by rw [HLE.out]; exact hlt2) hnode
              have HL := Lib.hid hL
              have HT := Lib.hid (show wN n d ml (j + 1) = (wN n d ml j).next by rw [wN, if_pos hnode])
              have HS := Lib.hid (show (wN n d ml j).sent ≤ 10000 by rw [wN_sent, HLE.out]; omega)
              have hnode2 := nodeB_true.1 hnode
              clear hL hnode
              obtain ⟨x, hx⟩ : ∃ x, x = mat ml j := ⟨_, rfl⟩
              have HX := Lib.hid hx.symm
              rw [← hx] at c0 c1 c2 HL hnode2
              clear hx
              have t1 : ¬ x.to < 0 := by omega
              have t2 : ¬ n ≤ x.to := by omega
              have hne := ne_same x.fr x.to x.text
              have hgm := fun y z xs ys => guard_msg y z xs ys
              unfold wel at HL
              go_wp2_with (first | (go_at_call 19; ((with_reducible refine (next_law _ _ hn4 HL.out HS.out).mono ?_); rintro e w3 ⟨rfl, hn5⟩; have hn6 := hn5.new w3.heap.size rfl [.int .i64 x.fr, .int .i64 x.to, .string x.text] 31; have q0 := (hn6.row (.head _)).at 0 rfl; have q1 := (hn6.row (.head _)).at 1 rfl; have q2 := (hn6.row (.head _)).at 2 rfl; have r0 := (hn6.bel.cell (p := ⟨b, _, none⟩) hbW).trans (hcW j hlt2).1; have r1 := (hn6.bel.cell (p := ⟨b, _, none⟩) hbW).trans (hcW j hlt2).2.1; have r2 := (hn6.bel.cell (p := ⟨b, _, none⟩) hbW).trans (hcW j hlt2).2.2)))
              rw [HX.out] at r0 r1 r2
              have s1 : IntKind.i64.wrap (10 * (j : Int)) = 10 * j := IntWalk.i64_in _ (by omega)
              have s2 : IntKind.i64.wrap (10 * (j : Int) + d) = 10 * j + d := IntWalk.i64_in _ (by omega)
              have s3 : dd.tmod 1000 = d := by rw [Int.tmod_eq_emod_of_nonneg d0]; exact HDD.out
              have s4 : IntKind.u16.wrap d = d := by unfold IntKind.wrap; simp [IntKind.signed, IntKind.bits]; omega
              have s5 : IntKind.i64.wrap d = d := IntWalk.i64_in _ (by omega)
              clear hcW
              go_quiet (fail)
              clear s1 s2 s3 s4 s5
              go_wp2_with fail
              go_roundw
              case rel => exact ⟨j + 1, by omega, by go_num, by rw [HT.out]; exact (hn6.drop (by simp)).below (below_drewN (Below.refl _ _) _)⟩
              case measure => simp [intOf]; omega
            · have hnode3 : nodeB n (mat ml j).to = false := by simpa using hnode
              have hnode2 := nodeB_false.1 hnode3
              have HT := Lib.hid (show wN n d ml (j + 1) = wN n d ml j by rw [wN, if_neg hnode])
              clear hnode hnode3
              generalize mat ml j = x at c0 c1 c2 hnode2
              by_cases t1 : x.to < 0
              · go_wp2_with fail
                go_roundw
                case rel => exact ⟨j + 1, by omega, by go_num, by rw [HT.out]; exact hn4⟩
                case measure => simp [intOf]; omega
              · have t2 : n ≤ x.to := by omega
                go_wp2_with fail
                go_roundw
                case rel => exact ⟨j + 1, by omega, by go_num, by rw [HT.out]; exact hn4⟩
                case measure => simp [intOf]; omega
          · obtain rfl : j = k := by omega
            have HW := Lib.hid (show ((wN n d ml j).L.length : Int) = 0 by have := wN_end n d hd0 ml; rw [HLE.out] at this; rw [this]; rfl)
            go_wp2_with (go_at_call 21; ((with_reducible refine (waiting_is 0 hn4 HW.out).mono ?_); rintro e w' ⟨rfl, rfl⟩))
            go_ret
            exact ⟨rfl, hn4.bel⟩
end Go.Proofs.Ytffijemgcgbjoaa
