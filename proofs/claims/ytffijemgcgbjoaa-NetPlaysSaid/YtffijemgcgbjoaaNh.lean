/- script. -/
import Derived.Test.YtffijemgcgbjoaaNg
namespace Go.Proofs.Ytffijemgcgbjoaa
open Go.RowKit Nt

/-- v is a slice of Troubles that reads as l -/
def TrbR (w : World) (v : Value) (l : List Trb) : Prop := ∃ a cap, v = .slice a l.length cap ∧ l.length ≤ 9223372036854775807 ∧ (0 < l.length → ∃ b off, a = some ⟨b, off, none⟩ ∧ b < w.heap.size ∧ ∀ i, i < l.length → w.cell? ⟨b, off + i * 3, none⟩ = some (.bool (tat l i).lost) ∧ w.cell? ⟨b, off + i * 3 + 1, none⟩ = some (.int .i64 (tat l i).copies) ∧ w.cell? ⟨b, off + i * 3 + 1 + 1, none⟩ = some (.int .i64 (tat l i).delay))
def cut1 (t : Trb) : Trb := ⟨t.lost, t.copies, t.delay.tmod 100000⟩
def scr (l : List Trb) : List Trb := (l.take 12).map cut1
theorem scr_len (l : List Trb) : (scr l).length = min 12 l.length := by simp [scr]
theorem scr_snoc (l : List Trb) (k : Nat) (hk : k < l.length) (h : k < 12) : (scr l).take (k + 1) = (scr l).take k ++ [cut1 (tat l k)] := by
  rw [List.take_succ_eq_append_getElem (by rw [scr_len]; omega)]
  simp [scr, tat, hk]
theorem scr_delay (l : List Trb) : ∀ t ∈ scr l, t.delay ≤ 100000 := by
  intro t ht
  simp only [scr, List.mem_map] at ht
  obtain ⟨u, _, rfl⟩ := ht
  simp only [cut1]
  have := Int.tmod_lt_of_pos u.delay (show (0 : Int) < 100000 by decide)
  omega
theorem trb_delay {s : NS} (h : ∀ t ∈ s.script, t.delay ≤ 100000) : s.trb.delay ≤ 100000 := by
  unfold NS.trb
  split
  · simp
  · rename_i h0
    rw [List.getD_eq_getElem?_getD]
    cases hc : s.script[s.sent % s.script.length]? with
    | none => simp [tz]
    | some t => exact h t (List.mem_of_getElem? hc)
theorem TrbR.only {S : List Nat} {w w' : World} {v : Value} {l : List Trb} (h : TrbR w v l) (ho : Only S w w') (hd : ∀ g, v.ownBlock = some g → g ∉ S) : TrbR w' v l := by
  obtain ⟨a, cap, rfl, hl, hc⟩ := h
  refine ⟨a, cap, rfl, hl, fun h0 => ?_⟩
  obtain ⟨b, off, rfl, hb, hcell⟩ := hc h0
  exact ⟨b, off, rfl, Nat.lt_of_lt_of_le hb ho.size, fun i hi => ⟨cell_only (hcell i hi).1 ho hb (hd b rfl), cell_only (hcell i hi).2.1 ho hb (hd b rfl), cell_only (hcell i hi).2.2 ho hb (hd b rfl)⟩⟩
theorem TrbR.below {w w' : World} {v : Value} {l : List Trb} (h : TrbR w v l) (ho : Below w.heap.size w w') : TrbR w' v l := h.only (Only.of_below (S := []) ho) (by simp)
def RetTbs (l : List Trb) (w : World) (e : Ending) (w' : World) : Prop := ∃ v', e = .returned v' ∧ Tbs w' w.heap.size v' l ∧ Below w.heap.size w w'
set_option maxRecDepth 100000 in
set_option maxHeartbeats 4000000 in
theorem script_any (v : Value) (l : List Trb) (w : World) (h : TrbR w v l) : Calls Try.prog 12 #[v] w (RetTbs (scr l) w) := by
  obtain ⟨a, cap, rfl, hl, hcell⟩ := h
  go_enter Try.func12, Try.ntmps12
  go_wp2_with fail
  go_loopw [3, 4, 5] (fun v i _ wr => ∃ k : Nat, k ≤ l.length ∧ k ≤ 12 ∧ i = .int .i64 k ∧ Tbs wr w.heap.size v ((scr l).take k) ∧ Below w.heap.size w wr) (fun _ i _ _ => 12 - (intOf i).toNat)
  case atStart => exact ⟨0, by omega, by omega, rfl, Tbs.nil _ _, Below.refl _ _⟩
  case round =>
    obtain ⟨k, hk, hk2, rfl, ht, hb⟩ := hrel
    by_cases hlt : k < l.length ∧ k < 12
    · obtain ⟨h1, h2⟩ := hlt
      obtain ⟨b, off, rfl, hbl, hc⟩ := hcell (by omega)
      obtain ⟨c0, c1, c2⟩ := hc k h1
      have c0 := hb.cell (p := ⟨b, off + k * 3, none⟩) hbl |>.trans c0
      have c1 := hb.cell (p := ⟨b, off + k * 3 + 1, none⟩) hbl |>.trans c1
      have c2 := hb.cell (p := ⟨b, off + k * 3 + 1 + 1, none⟩) hbl |>.trans c2
      have HS := Lib.hid (scr_snoc l k h1 h2)
      have hlen : ((scr l).take k).length ≤ 12 := by simp; omega
      generalize (scr l).take k = pre at ht HS hlen
      generalize tat l k = t at c0 c1 c2 HS
      clear hc hcell
      have i0 : (0 : Int) ≤ (k : Int) := by omega
      have i1 : (k : Int) < (l.length : Int) := by omega
      have hbel1 := hb.alloc hb.size (.cells #[.bool t.lost, .int .i64 t.copies, .int .i64 (t.delay.tmod 100000)] 44)
      have hone : Tbs ((wr.alloc (.cells #[.bool t.lost, .int .i64 t.copies, .int .i64 (t.delay.tmod 100000)] 44)).alloc (.cells #[.bool t.lost, .int .i64 t.copies, .int .i64 (t.delay.tmod 100000)] 44)) 0 (.slice (some ⟨wr.heap.size + 1, 0, none⟩) 1 1) [cut1 t] := by simpa using Tbs.lit (wr.alloc (.cells #[.bool t.lost, .int .i64 t.copies, .int .i64 (t.delay.tmod 100000)] 44)) [cut1 t] #[.bool t.lost, .int .i64 t.copies, .int .i64 (t.delay.tmod 100000)] 1 rfl rfl (by simp)
      go_wp2_with (at_builtin; refine app_tbs (by rfl) (by rfl) (by rfl) (by rfl) w.heap.size 0 ((ht.alloc _).alloc _) hone (by simp; omega) (by have := hb.size; simp; omega) ?_; intro v3 w3 hv3 hg3)
      have hb3 := (((hb.alloc hb.size _).alloc (by have := hb.size; simp; omega) _).grown hg3 (by have := hb.size; simp; omega) (fun k hk => (ht.lt hk).1))
      go_roundw
      case rel => exact ⟨k + 1, by omega, by omega, by go_num, by rw [HS.out]; exact hv3, hb3⟩
      case measure => simp [intOf]; omega
    · have he : (scr l).take k = scr l := List.take_of_length_le (by rw [scr_len]; omega)
      rw [he] at ht
      clear he
      go_wp2_with fail
      all_goals go_ret
      all_goals exact ⟨_, rfl, ht, hb⟩
end Go.Proofs.Ytffijemgcgbjoaa
