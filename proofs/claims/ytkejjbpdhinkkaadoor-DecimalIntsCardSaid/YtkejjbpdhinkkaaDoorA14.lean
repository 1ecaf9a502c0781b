import Derived.Test.YtkejjbpdhinkkaaDoorA13
import Derived.Test.YtkejjbpdhinkkaaDoorPi
namespace Go.Proofs.YtkejjbpdhinkkaaDoor
open Go.RowKit Pl

theorem conv_one (w : World) (z : Int) (dst : TypeId) (hd : Tryd.prog.underlying dst = some .string) (h0 : 0 ≤ z) (h1 : z < 256) :
    (convert 89 dst (.slice (some ⟨w.heap.size, 0, none⟩) 1 1)).run Tryd.prog (w.alloc (.cells #[.int .u8 z] 5)) = .ok (.string ⟨#[u8 z]⟩) (w.alloc (.cells #[.int .u8 z] 5)) := by
  have := run_convert_bytes_back (w.alloc (.cells #[.int .u8 z] 5)) 89 dst 5 ⟨w.heap.size, 0, none⟩ 1 [u8 z] Tryd.underlying89 Tryd.underlying5 hd (by
    intro j hj
    obtain rfl : j = 0 := by simp at hj; omega
    have e : ((u8 z).toNat : Int) = z := by rw [u8_toNat]; omega
    simp only [List.getElem_cons_zero, e]
    exact cell_new w (.int .u8 z) 5)
  exact this
def bvV : Value → Nat | .string s => bv s | _ => 0

set_option maxRecDepth 100000 in
set_option maxHeartbeats 2000000 in
theorem text_any (s : ByteArray) (w : World) (hs : s.size ≤ 134217728) :
    Calls Tryd.prog 50 #[.string s] w fun e w' => e = .returned (.string ⟨(dec (bv s)).toArray⟩) ∧ Below w.heap.size w w' := by
  have hms : s.size ≤ maxLen := by unfold maxLen; omega
  have hn := nb_bv_size s
  have hdl := decz_len_bv s
  go_enter Tryd.func50, Tryd.ntmps50
  go_wp2_with fail
  refine (canon_any s _ hms).mono ?_
  rintro e w' ⟨rfl, rfl⟩
  generalize hN : bv s = n at hn hdl
  have HN := Lib.hid hN
  clear hN
  by_cases hz : n = 0
  · have h0 : (((nb n).size : Int) == 0) = true := by simp [nb_size_zero.2 hz]
    have HZ := Lib.hid hz
    clear hz
    go_wp2_with fail
    go_ret
    exact ⟨ret_str (by rw [HN.out, HZ.out]; rfl), Below.refl _ _⟩
  · have hnz : (nb n).size ≠ 0 := fun h => hz (nb_size_zero.1 h)
    have h0 : (((nb n).size : Int) == 0) = false := by simp [hnz]
    have HZ := Lib.hid hz
    clear hz hnz
    go_wp2_with fail
    go_loopw [0, 3] (fun a t wr => ∃ (m : Nat) (l : List UInt8), m ≤ n ∧ (nb m).size ≤ 134217728 ∧ decz n = decz m ++ l ∧ a = .string (nb m) ∧ t = .string ⟨l.toArray⟩ ∧ Below w.heap.size w wr) (fun a _ _ => bvV a)
    case atStart => exact ⟨n, [], Nat.le_refl _, by omega, by simp, rfl, rfl, Below.refl _ _⟩
    case round =>
      obtain ⟨m, l, hmn, hms2, hd, rfl, rfl, hbel⟩ := hrel
      have Hd := Lib.hid hd
      clear hd
      by_cases hm : m = 0
      · have hsz : (nb m).size = 0 := nb_size_zero.2 hm
        have hsz' : (nb m).size ≤ 0 := by omega
        have Hm := Lib.hid hm
        clear hm hsz
        go_wp2_with fail
        go_ret
        exact ⟨ret_str (by rw [HN.out]; unfold dec; rw [if_neg HZ.out, Hd.out, Hm.out, decz_zero]; rfl), hbel⟩
      · have hsz : 0 < (nb m).size := by have : (nb m).size ≠ 0 := fun h => hm (nb_size_zero.1 h); omega
        have hbm := bv_nb m
        have hb10 := bv_nb 10
        have Hm := Lib.hid hm
        have Hbm := Lib.hid hbm
        have Hb10 := Lib.hid hb10
        clear hm hbm hb10
        go_wp2_with fail
        refine (ofn_any 10 _ (by omega) (by omega)).mono ?_
        rintro e w1 ⟨rfl, hb1⟩
        have hs10 : (nb 10).size ≤ 134217728 := Nat.le_trans (nb_size_le.2 (by decide : 10 < 256 ^ 1)) (by omega)
        go_wp2_with fail
        refine (quo_any (nb m) (nb (10 : Int).toNat) _ hms2 hs10 (by rw [show (10 : Int).toNat = 10 from rfl, Hb10.out]; omega)).mono ?_
        rw [show (10 : Int).toNat = 10 from rfl, Hb10.out, Hbm.out]
        rintro e w2 ⟨rfl, hb2⟩
        have hsr : (nb (m % 10)).size ≤ 4294967296 := Nat.le_trans (nb_size_le.2 (by omega : m % 10 < 256 ^ 1)) (by omega)
        have hbr := bv_nb (m % 10)
        go_wp2_with fail
        refine (int_yes (nb (m % 10)) _ hsr (by rw [hbr]; omega)).mono ?_
        rw [hbr]
        rintro e w' ⟨rfl, rfl⟩
        clear hbr
        have hcv := fun W => conv_one W (48 + (m : Int) % 10) 9 Tryd.underlying9 (by omega) (by omega)
        have hll : l.length ≤ 402653184 := by have := congrArg List.length Hd.out; simp at this; omega
        have hz2 := hb1.size
        have hacc := (hbel.trans (hb1.mono hbel.size)).trans (hb2.mono (Nat.le_trans hbel.size hb1.size))
        have hbs : w.heap.size ≤ w2.heap.size := hacc.size
        go_wp2_with fail
        go_roundw
        case rel => exact ⟨m / 10, [Pl.u8 (48 + (m : Int) % 10)] ++ l, by omega, Nat.le_trans (nb_size_mono (Nat.div_le_self _ _)) hms2, by rw [u8_dig]; exact text_step Hd.out Hm.out, rfl, congrArg Value.string (mk_append _ _), hacc.alloc hbs _⟩
        case measure => simp only [bvV, bv_nb]; have := Hm.out; omega

set_option maxHeartbeats 2000000 in
theorem mod_any (n m : Int) (w : World) (hm : 0 < m) (hm1 : m ≤ 1000000) :
    Calls Tryd.prog 12 #[.int .i64 n, .int .i64 m] w fun e w' => e = .returned (.int .i64 (n % m)) ∧ w = w' := by
  go_enter Tryd.func12, Tryd.ntmps12
  go_wp2
  go_ret
  exact ⟨ret_int (by rw [show wrap64 (n.tmod m + m) = n.tmod m + m from by have := tmod_bd n hm; unfold wrap64; omega]; exact mod_eq n hm), rfl⟩
end Go.Proofs.YtkejjbpdhinkkaaDoor
