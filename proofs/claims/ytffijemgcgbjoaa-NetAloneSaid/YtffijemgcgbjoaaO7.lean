/- NetAlone. -/
import Derived.Test.YtffijemgcgbjoaaO4
import Derived.Test.YtffijemgcgbjoaaOr
namespace Go.Proofs.Ytffijemgcgbjoaa
open Go.RowKit Nt

def aN (sc : List Trb) (zs : List Int) : Nat → NS
  | 0 => .new 2 sc
  | k + 1 => (aN sc zs k).send (zs.getD k 0) ⟨k, 1, ⟨#[111, 116, 104, 101, 114]⟩⟩
def aM (sc : List Trb) : Nat → NS
  | 0 => .new 2 sc
  | k + 1 => (aM sc k).send 0 ⟨0, 5, ⟨#[]⟩⟩
/-- it goes to node 0 -/
def isThis (x : Wt) : Bool := decide (x.to = 0)
section
variable (sc : List Trb) (zs : List Int)
theorem aN_sent : ∀ k, (aN sc zs k).sent = k
  | 0 => rfl
  | k + 1 => by rw [show (aN sc zs (k + 1)).sent = (aN sc zs k).sent + 1 from rfl, aN_sent k]
theorem aM_sent : ∀ k, (aM sc k).sent = k
  | 0 => rfl
  | k + 1 => by rw [show (aM sc (k + 1)).sent = (aM sc k).sent + 1 from rfl, aM_sent k]
theorem aN_const : ∀ k, (aN sc zs k).nodes = 2 ∧ (aN sc zs k).script = sc
  | 0 => ⟨rfl, rfl⟩
  | k + 1 => aN_const k
theorem aM_const : ∀ k, (aM sc k).nodes = 2 ∧ (aM sc k).script = sc
  | 0 => ⟨rfl, rfl⟩
  | k + 1 => aM_const k
theorem aMN_trb (k : Nat) : (aM sc k).trb = (aN sc zs k).trb := by
  unfold NS.trb
  rw [(aM_const sc k).2, (aN_const sc zs k).2, aM_sent, aN_sent]
theorem aM_L : ∀ k, (aM sc k).L = []
  | 0 => rfl
  | k + 1 => by
    have : (aM sc k).goes ⟨0, 5, ⟨#[]⟩⟩ = false := by
      have h : nodeB (aM sc k).nodes 5 = false := nodeB_false.2 (by rw [(aM_const sc k).1]; omega)
      simp [NS.goes, NS.node, h]
    show (if (aM sc k).goes ⟨0, 5, ⟨#[]⟩⟩ then _ else (aM sc k).L) = []
    rw [if_neg (by simp [this]), aM_L k]
theorem aN_to : ∀ k, ∀ x ∈ (aN sc zs k).L, x.to = 1
  | 0, x, h => by simp [aN, NS.new] at h
  | k + 1, x, h => by
    have h' : x ∈ (if (aN sc zs k).goes ⟨k, 1, ⟨#[111, 116, 104, 101, 114]⟩⟩ then insUpto (zs.getD k 0) (aN sc zs k).trb.delay (aN sc zs k).sent ⟨k, 1, ⟨#[111, 116, 104, 101, 114]⟩⟩ (aN sc zs k).L (num (aN sc zs k).trb.copies) else (aN sc zs k).L) := h
    split at h'
    · rcases mem_insUpto.1 h' with h' | ⟨j, _, rfl⟩
      · exact aN_to k x h'
      · rfl
    · exact aN_to k x h'
theorem aN_good : ∀ k, Nt.Good (aN sc zs k)
  | 0 => Good.new _ _
  | k + 1 => (aN_good k).send _ _
def bN (now : Int) (K : Nat) : NS := (aN sc zs K).send now ⟨7, 0, ⟨#[116, 104, 105, 115]⟩⟩
def bM (now : Int) (K : Nat) : NS := (aM sc K).send now ⟨7, 0, ⟨#[116, 104, 105, 115]⟩⟩
theorem goes_this {s : NS} (h : s.nodes = 2) : s.goes ⟨7, 0, ⟨#[116, 104, 105, 115]⟩⟩ = !s.trb.lost := by
  have h1 : nodeB s.nodes 0 = true := nodeB_true.2 (by rw [h]; omega)
  have h2 : nodeB s.nodes 7 = false := nodeB_false.2 (by rw [h]; omega)
  simp [NS.goes, NS.node, h1, h2]
theorem insUpto_filter {now d : Int} {n : Nat} {m : Msg} {L : List Wt} (hs : L.Pairwise lt) (hn : ∀ x ∈ L, x.number < n) (hm : m.to = 0) : ∀ j, (insUpto now d n m L j).filter isThis = insUpto now d n m (L.filter isThis) j
  | 0 => rfl
  | j + 1 => by
    rw [insUpto, insUpto, ins_filter isThis (insUpto_sorted hs hn j) (by simp [isThis, cop, hm]), insUpto_filter hs hn hm j]
theorem aN_filter (K : Nat) : (aN sc zs K).L.filter isThis = [] := by
  rw [List.filter_eq_nil_iff]
  intro x hx
  have := aN_to sc zs K x hx
  simp [isThis, this]
theorem b_filter (now : Int) (K : Nat) : (bN sc zs now K).L.filter isThis = (bM sc now K).L := by
  have e1 : (bN sc zs now K).L = (if (aN sc zs K).goes ⟨7, 0, ⟨#[116, 104, 105, 115]⟩⟩ then insUpto now (aN sc zs K).trb.delay (aN sc zs K).sent ⟨7, 0, ⟨#[116, 104, 105, 115]⟩⟩ (aN sc zs K).L (num (aN sc zs K).trb.copies) else (aN sc zs K).L) := rfl
  have e2 : (bM sc now K).L = (if (aM sc K).goes ⟨7, 0, ⟨#[116, 104, 105, 115]⟩⟩ then insUpto now (aM sc K).trb.delay (aM sc K).sent ⟨7, 0, ⟨#[116, 104, 105, 115]⟩⟩ (aM sc K).L (num (aM sc K).trb.copies) else (aM sc K).L) := rfl
  rw [e1, e2, goes_this (aN_const sc zs K).1, goes_this (aM_const sc K).1, aMN_trb sc zs, aM_L, aM_sent, aN_sent]
  split
  · rw [insUpto_filter (aN_good sc zs K).sorted (by have := (aN_good sc zs K).nums; rw [aN_sent] at this; exact this) rfl, aN_filter]
  · exact aN_filter sc zs K
theorem bN_this (now : Int) (K : Nat) : ∀ x ∈ (bN sc zs now K).L, isThis x = true → x.fr = 7 ∧ x.to = 0 ∧ x.text = ⟨#[116, 104, 105, 115]⟩ := by
  intro x hx ht
  have h' : x ∈ (if (aN sc zs K).goes ⟨7, 0, ⟨#[116, 104, 105, 115]⟩⟩ then insUpto now (aN sc zs K).trb.delay (aN sc zs K).sent ⟨7, 0, ⟨#[116, 104, 105, 115]⟩⟩ (aN sc zs K).L (num (aN sc zs K).trb.copies) else (aN sc zs K).L) := hx
  have hold : ∀ y ∈ (aN sc zs K).L, isThis y = true → False := fun y hy h => by
    have := aN_to sc zs K y hy
    simp [isThis, this] at h
  split at h'
  · rcases mem_insUpto.1 h' with h' | ⟨j, _, rfl⟩
    · exact (hold x h' ht).elim
    · exact ⟨rfl, rfl, rfl⟩
  · exact (hold x h' ht).elim
theorem bN_few (now : Int) (K : Nat) (hK : K ≤ 30) : (bN sc zs now K).L.length ≤ 248 := by
  have := ((aN_good sc zs K).send now ⟨7, 0, ⟨#[116, 104, 105, 115]⟩⟩).few
  rw [show ((aN sc zs K).send now ⟨7, 0, ⟨#[116, 104, 105, 115]⟩⟩).sent = (aN sc zs K).sent + 1 from rfl, aN_sent] at this
  show ((aN sc zs K).send now ⟨7, 0, ⟨#[116, 104, 105, 115]⟩⟩).L.length ≤ 248
  omega
end
theorem IntsK.take {q : IntKind} {w : World} {a : Option Addr} {cap : Nat} {l : List Int} (h : IntsK q w (.slice a l.length cap) l) (n : Nat) (hn : n ≤ l.length) : IntsK q w (.slice a n cap) (l.take n) := by
  obtain ⟨a', cap', e, hl, hcap, hw, hc⟩ := h
  simp only [Value.slice.injEq, true_and] at e
  obtain ⟨rfl, rfl⟩ := e
  have hlen : (l.take n).length = n := by simp; omega
  refine ⟨a, cap, by rw [hlen], by omega, hcap, fun z hz => hw z (List.mem_of_mem_take hz), fun h0 => ?_⟩
  obtain ⟨b, off, rfl, hbl, hcell⟩ := hc (by omega)
  refine ⟨b, off, rfl, hbl, fun i hi => ?_⟩
  have e : (l.take n).getD i 0 = l.getD i 0 := by
    have : i < n := by omega
    simp [this]
  rw [e]
  exact hcell i (by omega)
/-- both nets after j calls of Next on the first one -/
def ALoop (W wr : World) (p q gx : Nat) (LN : List Wt) (j : Nat) : Prop := ∃ s t : NS, s.L = LN.drop j ∧ t.L = (LN.drop j).filter isThis ∧ s.sent ≤ 10000 ∧ t.sent ≤ 10000 ∧ LawM W wr p s q t [(gx, [.int .i64 7, .int .i64 0, .string ⟨#[116, 104, 105, 115]⟩])]
set_option maxRecDepth 100000 in
set_option maxHeartbeats 8000000 in
theorem alone_walk (v : Value) (l : List Trb) (u : Value) (us : List Int) (now : Int) (W : World) (hv : TrbR W v l) (hu : IntsK .u16 W u us) (n0 : 0 ≤ now) (n1 : now ≤ 65535) :
    Calls Try.prog 5 #[v, u, .int .u16 now] W fun e w' => e = .returned (.bool true) ∧ Below W.heap.size W w' := by
  have HlS := Lib.hid (show (scr l).length ≤ 12 by rw [scr_len]; omega)
  have HdS := Lib.hid (scr_delay l)
  obtain ⟨ua, ucap, rfl, hul, hum, _, _⟩ := id hu
  obtain ⟨N, hN⟩ : ∃ N : Nat, N = min us.length 30 := ⟨_, rfl⟩
  have hzs := hu.take N (by omega)
  have hlen : (us.take N).length = N := by simp; omega
  obtain ⟨zs, hzs2⟩ : ∃ zs, zs = us.take N := ⟨_, rfl⟩
  rw [← hzs2] at hzs hlen
  have hN30 : N ≤ 30 := by omega
  have HNm := Lib.hid hN
  have HLE := Lib.hid hlen
  obtain ⟨a', cap', e, _, _, hzw, hzc⟩ := hzs
  rw [hlen] at e hzc
  simp only [Value.slice.injEq, true_and] at e
  obtain ⟨rfl, rfl⟩ := e
  have hz : ∀ i, 0 ≤ zs.getD i 0 ∧ zs.getD i 0 ≤ 65535 := fun i => by
    rw [List.getD_eq_getElem?_getD]
    cases hc : zs[i]? with
    | none => simp
    | some z => exact bounds_u16 (hzw z (List.mem_of_getElem? hc))
  have HZ := Lib.hid hz
  have HU := Lib.hid hzc
  have hNl : N ≤ us.length := by omega
  clear hz hzc hzw hzs2 hlen hN
  go_enter Try.func5, Try.ntmps5
  go_upto_region 5 with (first
    | (go_at_call 11; ((with_reducible refine (sanity_any _).mono ?_); rintro e w1 ⟨rfl, hb1⟩))
    | (go_at_call 12; ((with_reducible refine (script_any v l _ (hv.below hb1)).mono ?_); rintro e w2 ⟨v2, rfl, ht2, hb2⟩; have hb12 := hb1.trans (hb2.mono hb1.size)))
    | (go_at_call 13; ((with_reducible refine (new_any _ _ 2 _ _ ht3 (by have := HlS.out; omega) (by decide)).mono ?_); intro e w4 hret2; obtain ⟨q, rfl, hM⟩ := lawM_of_new hN1 hret2))
    | (go_at_call 13; ((with_reducible refine (new_any _ _ 2 _ _ ht2 (by have := HlS.out; omega) (by decide)).mono ?_); intro e w3 hret; obtain ⟨p, rfl, hN1⟩ := lawN_of_new (R := []) hb12 hret (by simp); obtain ⟨_, _, _, _, _, hb3⟩ := hret; have ht3 := ht2.only (Only.of_below (S := []) hb3) (by simp))))
  generalize scr l = sc at HlS HdS hM ht2 ht3
  clear hN1 hret2 ht2 ht3
  go_cut [1] (fun s wx => s = .slice ua N ucap ∧ wx = w4)
  case first =>
    have j0 : (0 : Int) ≤ (us.length : Int) := by omega
    have j1 : (us.length : Int) ≤ (ucap : Int) := by omega
    by_cases h30 : us.length < 30
    · go_wp2_with fail
      all_goals go_meet
      all_goals exact ⟨congrArg (Value.slice ua · ucap) (by have := HNm.out; omega), rfl⟩
    · have j2 : (30 : Int) ≤ (ucap : Int) := by omega
      go_wp2_with fail
      all_goals go_meet
      all_goals exact ⟨congrArg (Value.slice ua · ucap) (by have := HNm.out; omega), rfl⟩
  case rest =>
    obtain ⟨rfl, rfl⟩ := hcut
    go_wp2_with fail
    go_loopw [11] (fun i wr => ∃ k : Nat, k ≤ N ∧ i = .int .i64 k ∧ LawM W wr p (aN sc zs k) q (aM sc k) []) (fun i _ => N - (intOf i).toNat)
    case atStart => exact ⟨0, Nat.zero_le _, rfl, hM⟩
    case round =>
      obtain ⟨k, hk, rfl, hn⟩ := hrel
      clear hM
      by_cases hlt : k < N
      · obtain ⟨b, off, rfl, hbW, hcW⟩ := HU.out (by omega)
        have c0 := (hn.bel.cell (p := ⟨b, _, none⟩) hbW).trans (hcW k hlt)
        clear hcW
        have hzk := HZ.out k
        have k0 : (0 : Int) ≤ (k : Int) := by omega
        have k1 : (k : Int) < (N : Int) := by omega
        have HSN := Lib.hid (show (aN sc zs k).sent ≤ 9000 by rw [aN_sent]; omega)
        have HSM := Lib.hid (show (aM sc k).sent ≤ 9000 by rw [aM_sent]; omega)
        have HGN := Lib.hid (show -1000000000000 ≤ zs.getD k 0 ∧ zs.getD k 0 ≤ 1000000000000 ∧ (aN sc zs k).trb.delay ≤ 1000000000000 from ⟨by omega, by omega, by have := trb_delay (s := aN sc zs k) (by rw [(aN_const sc zs k).2]; exact HdS.out); omega⟩)
        have HGM := Lib.hid (show (-1000000000000 : Int) ≤ 0 ∧ (0 : Int) ≤ 1000000000000 ∧ (aM sc k).trb.delay ≤ 1000000000000 from ⟨by omega, by omega, by have := trb_delay (s := aM sc k) (by rw [(aM_const sc k).2]; exact HdS.out); omega⟩)
        have HT := Lib.hid (show aN sc zs (k + 1) = (aN sc zs k).send (zs.getD k 0) ⟨k, 1, ⟨#[111, 116, 104, 101, 114]⟩⟩ from rfl)
        generalize zs.getD k 0 = z at c0 hzk HGN HT
        go_wp2_with (first
          | (go_at_call 15; ((with_reducible refine (send_law2 _ _ _ _ hn HSN.out (fun _ => HGN.out)).mono ?_); rintro e w6 ⟨rfl, hA⟩))
          | (go_at_call 15; ((with_reducible refine (send_law2 0 0 5 _ hA.symm HSM.out (fun _ => HGM.out)).mono ?_); rintro e w7 ⟨rfl, hB⟩)))
        go_roundw
        case rel => exact ⟨k + 1, by omega, by go_num, by rw [HT.out]; exact hB.symm⟩
        case measure => simp [intOf]; omega
      · obtain rfl : k = N := by omega
        have HSN := Lib.hid (show (aN sc zs k).sent ≤ 9000 by rw [aN_sent]; omega)
        have HSM := Lib.hid (show (aM sc k).sent ≤ 9000 by rw [aM_sent]; omega)
        have HGN := Lib.hid (show -1000000000000 ≤ now ∧ now ≤ 1000000000000 ∧ (aN sc zs k).trb.delay ≤ 1000000000000 from ⟨by omega, by omega, by have := trb_delay (s := aN sc zs k) (by rw [(aN_const sc zs k).2]; exact HdS.out); omega⟩)
        have HGM := Lib.hid (show -1000000000000 ≤ now ∧ now ≤ 1000000000000 ∧ (aM sc k).trb.delay ≤ 1000000000000 from ⟨by omega, by omega, by have := trb_delay (s := aM sc k) (by rw [(aM_const sc k).2]; exact HdS.out); omega⟩)
        obtain ⟨gx, hgx⟩ : ∃ gx : Nat, gx = wr.heap.size := ⟨_, rfl⟩
        have hX := hn.new gx hgx [.int .i64 7, .int .i64 0, .string ⟨#[116, 104, 105, 115]⟩] 31
        have x0 := (hX.row (.head _)).at 0 rfl
        have x1 := (hX.row (.head _)).at 1 rfl
        have x2 := (hX.row (.head _)).at 2 rfl
        have HGX := Lib.hid hgx
        obtain ⟨wo, hwo⟩ : ∃ wo : World, wo = wr := ⟨_, rfl⟩
        subst hwo
        rw [hgx] at x0 x1 x2
        clear hn
        go_wp2_with (first
          | (go_at_call 15; ((with_reducible refine (send_law2 _ _ _ _ hX HSN.out (fun _ => HGN.out)).mono ?_); rintro e w6 ⟨rfl, hA⟩; have y0 := (hA.row (.head _)).at 0 rfl; have y1 := (hA.row (.head _)).at 1 rfl; have y2 := (hA.row (.head _)).at 2 rfl; rw [hgx] at y0 y1 y2))
          | (go_at_call 15; ((with_reducible refine (send_law2 _ _ _ _ hA.symm HSM.out (fun _ => HGM.out)).mono ?_); rintro e w7 ⟨rfl, hB⟩)))
        obtain ⟨LN, hLN⟩ : ∃ LN, LN = (bN sc zs now k).L := ⟨_, rfl⟩
        have hB0 : ALoop W w7 p q gx LN 0 := ⟨bN sc zs now k, bM sc now k, by rw [hLN]; rfl, by rw [hLN, List.drop_zero, b_filter], by show (aN sc zs k).sent + 1 ≤ 10000; rw [aN_sent]; omega, by show (aM sc k).sent + 1 ≤ 10000; rw [aM_sent]; omega, hB.symm⟩
        have HTh := Lib.hid (show ∀ x ∈ LN, isThis x = true → x.fr = 7 ∧ x.to = 0 ∧ x.text = ⟨#[116, 104, 105, 115]⟩ by rw [hLN]; exact bN_this sc zs now k)
        have HFw := Lib.hid (show LN.length ≤ 248 by rw [hLN]; exact bN_few sc zs now k hN30)
        have hne := ne_same 7 0 ⟨#[116, 104, 105, 115]⟩
        have hgm := fun y z xs ys => guard_msg y z xs ys
        rw [← hgx]
        clear hLN hA hX hB x0 x1 x2 y0 y1 y2 hgx
        go_loopw [13, 14, 15, 16, 17, 18, 19] (fun i _ _ _ _ _ _ wr => ∃ j : Nat, j ≤ 300 ∧ i = .int .i64 j ∧ ALoop W wr p q gx LN j) (fun i _ _ _ _ _ _ _ => 300 - (intOf i).toNat)
        case atStart => exact ⟨0, Nat.zero_le _, rfl, hB0⟩
        case round =>
          obtain ⟨j, hj, rfl, s, t, hs, ht, hss, hts, hn⟩ := hrel
          clear hB0
          cases hL : LN.drop j with
          | nil =>
            rw [hL] at hs ht
            have HLs := Lib.hid hs
            have HLt := Lib.hid (show t.L = [] from ht)
            have HWs := Lib.hid (show (s.L.length : Int) = 0 by rw [hs]; rfl)
            have HWt := Lib.hid (show (t.L.length : Int) = 0 by rw [HLt.out]; rfl)
            clear hL hs ht
            by_cases hlt2 : j < 300
            · go_wp2_with (first
                | (go_at_call 19; ((with_reducible refine (next_law20 hn HLs.out).mono ?_); rintro e w8 ⟨rfl, hA⟩; have hA2 := hA.alloc (.cells #[.int .i64 0, .int .i64 0, .string ⟨#[]⟩] 31); have hA3 := hA2.symm))
                | (go_at_call 21; ((with_reducible refine (waiting_is2 0 hA2 HWs.out).mono ?_); rintro e w' ⟨rfl, rfl⟩))
                | (go_at_call 21; ((with_reducible refine (waiting_is2 0 hA3 HWt.out).mono ?_); rintro e w' ⟨rfl, rfl⟩)))
              go_ret
              exact ⟨rfl, hA2.bel⟩
            · have hns := hn.symm
              go_wp2_with (first
                | (go_at_call 21; ((with_reducible refine (waiting_is2 0 hn HWs.out).mono ?_); rintro e w' ⟨rfl, rfl⟩))
                | (go_at_call 21; ((with_reducible refine (waiting_is2 0 hns HWt.out).mono ?_); rintro e w' ⟨rfl, rfl⟩)))
              go_ret
              exact ⟨rfl, hn.bel⟩
          | cons x L' =>
            have hlt2 : j < 300 := by
              have h1 := congrArg List.length hL
              rw [List.length_drop] at h1
              have := HFw.out
              simp at h1; omega
            have hxm : x ∈ LN := (List.drop_sublist j _).subset (by rw [hL]; exact .head _)
            have hdr : LN.drop (j + 1) = L' := by rw [← List.tail_drop, hL]; rfl
            have HDR := Lib.hid hdr
            rw [hL] at hs ht
            have HLs := Lib.hid hs
            have k0 : (0 : Int) ≤ (j : Int) := by omega
            by_cases hx : isThis x = true
            · obtain ⟨f1, f2, f3⟩ := HTh.out x hxm hx
              have ht' : t.L = x :: L'.filter isThis := by rw [ht, List.filter_cons, if_pos hx]
              have HLt := Lib.hid ht'
              obtain ⟨tm, nu, fr, to', tx⟩ := x
              simp only at f1 f2 f3
              subst f1 f2 f3
              clear hL hs ht ht' hxm hx hdr
              go_wp2_with (first
                | (go_at_call 19; ((with_reducible refine (next_law2 _ _ hn HLs.out hss).mono ?_); rintro e w8 ⟨rfl, hA⟩; have hA2 := hA.new w8.heap.size rfl [.int .i64 7, .int .i64 0, .string ⟨#[116, 104, 105, 115]⟩] 31; have hA3 := hA2.symm; have y0 := (hA2.row (.head _)).at 1 rfl))
                | (go_at_call 19; ((with_reducible refine (next_law2 _ _ hA3 HLt.out hts).mono ?_); rintro e w9 ⟨rfl, hB⟩; have hB2 := hB.new w9.heap.size rfl [.int .i64 7, .int .i64 0, .string ⟨#[116, 104, 105, 115]⟩] 31; have q0 := (hB2.row (.head _)).at 0 rfl; have q1 := (hB2.row (.head _)).at 1 rfl; have q2 := (hB2.row (.head _)).at 2 rfl; have r0 := (hB2.row (.tail _ (.head _))).at 0 rfl; have r1 := (hB2.row (.tail _ (.head _))).at 1 rfl; have r2 := (hB2.row (.tail _ (.head _))).at 2 rfl; have s0 := (hB2.row (.tail _ (.tail _ (.head _)))).at 0 rfl; have s1 := (hB2.row (.tail _ (.tail _ (.head _)))).at 1 rfl; have s2 := (hB2.row (.tail _ (.tail _ (.head _)))).at 2 rfl)))
              go_roundw
              case rel => exact ⟨j + 1, by omega, by go_num, s.next, t.next, by rw [HDR.out]; show s.L.tail = L'; rw [HLs.out]; rfl, by rw [HDR.out]; show t.L.tail = _; rw [HLt.out]; rfl, hss, hts, (hB2.drop (by simp)).symm⟩
              case measure => simp [intOf]; omega
            · have ht' : t.L = L'.filter isThis := by rw [ht, List.filter_cons, if_neg hx]
              have HLt := Lib.hid ht'
              have hto : ¬ x.to = 0 := fun e => hx (by simp [isThis, e])
              have hto2 : (x.to != 0) = true := by simp [hto]
              have HX := Lib.hid hto
              clear hL hs ht ht' hxm hx hdr hto
              go_wp2_with (first
                | (go_at_call 19; ((with_reducible refine (next_law2 _ _ hn HLs.out hss).mono ?_); rintro e w8 ⟨rfl, hA⟩; have hA2 := hA.new w8.heap.size rfl [.int .i64 x.fr, .int .i64 x.to, .string x.text] 31; have y0 := (hA2.row (.head _)).at 1 rfl)))
              go_roundw
              case rel => exact ⟨j + 1, by omega, by go_num, s.next, t, by rw [HDR.out]; show s.L.tail = L'; rw [HLs.out]; rfl, by rw [HDR.out]; exact HLt.out, hss, hts, hA2.drop (by simp)⟩
              case measure => simp [intOf]; omega
end Go.Proofs.Ytffijemgcgbjoaa
