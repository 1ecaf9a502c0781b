/- NetNone. -/
import Derived.Test.YtffijemgcgbjoaaNh
namespace Go.Proofs.Ytffijemgcgbjoaa
open Go.RowKit Nt

theorem lawN_zero {W w : World} {R : List (Nat × List Value)} (hb : Below W.heap.size W w) (hR : ∀ r, r ∈ R → Row w r.1 r.2) : LawN W (w.alloc (.cells #[.int .i64 0, .slice none 0 0, .map none, .nilIface, .int .i64 0] 56)) w.heap.size (.new 0 []) R := by
  have hc := NetC.made (w := w) 0 (Tbs.nil w 0)
  refine ⟨_, ⟨_, _, _, _, _, rfl, hc, Good.new _ _, by decide, by decide⟩, fun k hk => ?_, hb.alloc hb.size _, fun r hr => ⟨(hR r hr).alloc _, fun hm => ?_⟩⟩
  · simp [Value.ownBlock] at hk
    have := hb.size; omega
  · simp [Value.ownBlock] at hm
    have := (hR r hr).lt; omega
theorem send_nil_f (now f o : Int) (tx : ByteArray) (w : World) :
    Calls Try.prog 15 #[.pointer none, .int .i64 now, .agg #[.int .i64 f, .int .i64 o, .string tx]] w fun e w' => e = .returned (.tuple #[]) ∧ Below w.heap.size w w' := send_nil now ⟨f, o, tx⟩ w
theorem next_nil_f (w : World) :
    Calls Try.prog 19 #[.pointer none] w fun e w' => e = .returned (.tuple #[.agg #[.int .i64 0, .int .i64 0, .string ⟨#[]⟩], .int .i64 0, .bool false]) ∧ Below w.heap.size w w' := next_nil w
set_option maxRecDepth 100000 in
set_option maxHeartbeats 4000000 in
theorem none_walk (m : Msg) (now : Int) (v : Value) (l : List Trb) (W : World) (_n0 : -9223372036854775808 ≤ now) (_n1 : now ≤ 9223372036854775807) (hv : TrbR W v l) :
    Calls Try.prog 9 #[.agg #[.int .i64 m.fr, .int .i64 m.to, .string m.text], .int .i64 now, v] W fun e w' => e = .returned (.bool true) ∧ Below W.heap.size W w' := by
  have hr := Row.new W _ rfl (mcells m) 31
  have hb0 : Below W.heap.size W (W.alloc (.cells #[.int .i64 m.fr, .int .i64 m.to, .string m.text] 31)) := (Below.refl _ _).alloc (Nat.le_refl _) _
  have HlS := Lib.hid (show (scr l).length ≤ 1000 by rw [scr_len]; omega)
  have HZ1 := Lib.hid (show ((NS.new 0 []).part [1]).sent ≤ 9000 from Nat.zero_le _)
  have HZg := Lib.hid (show ((NS.new 0 []).part [1]).goes ⟨m.fr, m.to, m.text⟩ = true → -1000000000000 ≤ now ∧ now ≤ 1000000000000 ∧ ((NS.new 0 []).part [1]).trb.delay ≤ 1000000000000 from fun h => by rw [goes_none (by decide)] at h; cases h)
  have HE1 := Lib.hid (show (NS.new (-3) (scr l)).sent ≤ 9000 from Nat.zero_le _)
  have HEg := Lib.hid (show (NS.new (-3) (scr l)).goes ⟨m.fr, m.to, m.text⟩ = true → -1000000000000 ≤ now ∧ now ≤ 1000000000000 ∧ (NS.new (-3) (scr l)).trb.delay ≤ 1000000000000 from fun h => by rw [goes_none (show (-3 : Int) ≤ 0 by decide)] at h; cases h)
  have HZL := Lib.hid (show (((NS.new 0 []).part [1]).send now ⟨m.fr, m.to, m.text⟩).L = [] from send_none (by decide))
  have HEL := Lib.hid (show ((NS.new (-3) (scr l)).send now ⟨m.fr, m.to, m.text⟩).L = [] from send_none (show (-3 : Int) ≤ 0 by decide))
  have HZW := Lib.hid (show ((((NS.new 0 []).part [1]).send now ⟨m.fr, m.to, m.text⟩).L.length : Int) = 0 by rw [HZL.out]; rfl)
  have HEW := Lib.hid (show (((NS.new (-3) (scr l)).send now ⟨m.fr, m.to, m.text⟩).L.length : Int) = 0 by rw [HEL.out]; rfl)
  go_enter Try.func9, Try.ntmps9
  go_wp2_with (first
    | (go_at_call 11; ((with_reducible refine (sanity_any _).mono ?_); rintro e w1 ⟨rfl, hb1⟩; have hbW := hb0.trans (hb1.mono hb0.size); have hz0 := lawN_zero (R := [(W.heap.size, mcells m)]) hbW (fun r hrr => by (simp only [List.mem_singleton] at hrr; subst hrr; exact hr.below hb1))))
    | (go_at_call 12; ((with_reducible refine (script_any v l _ (hv.below hz0.bel)).mono ?_); rintro e w2 ⟨v2, rfl, ht2, hb2⟩; have hz1 := hz0.below hb2))
    | (go_at_call 13; ((with_reducible refine (new_any v2 _ (-3) _ _ ht2 HlS.out (by decide)).mono ?_); intro e w3 hret; obtain ⟨q, rfl, hM⟩ := lawM_of_new hz1 hret; have m0 := (hM.row (.head _)).at 0 rfl; have m1 := (hM.row (.head _)).at 1 rfl; have m2 := (hM.row (.head _)).at 2 rfl))
    | (go_at_call 15; ((with_reducible refine (send_law2 now _ _ _ hD.symm HE1.out HEg.out).mono ?_); rintro e w7 ⟨rfl, hE⟩))
    | (go_at_call 15; ((with_reducible refine (send_law2 now _ _ _ hC HZ1.out HZg.out).mono ?_); rintro e w6 ⟨rfl, hD⟩; have m30 := (hD.row (.tail _ (.head _))).at 0 rfl; have m31 := (hD.row (.tail _ (.head _))).at 1 rfl; have m32 := (hD.row (.tail _ (.head _))).at 2 rfl))
    | (go_at_call 17; ((with_reducible refine (part_row2 (w4.heap.size + 1) [1] 1 1 hB' (by decide) (by decide) (by decide)).mono ?_); rintro e w5 ⟨rfl, hC⟩; have m20 := (hC.row (.tail _ (.head _))).at 0 rfl; have m21 := (hC.row (.tail _ (.head _))).at 1 rfl; have m22 := (hC.row (.tail _ (.head _))).at 2 rfl))
    | (go_at_call 17; ((with_reducible refine (part_nil _ _).mono ?_); rintro e w' ⟨rfl, rfl⟩; have hB' : LawM W ((w4.alloc (.cells #[.int .i64 1] 3)).alloc (.cells #[.int .i64 1] 3)) _ _ q _ ((w4.heap.size + 1, ([1] : List Int).map (Value.int .i64)) :: _) := (hB.alloc _).new (w4.heap.size + 1) (by simp) [.int .i64 1] 3))
    | (go_at_call 15; ((with_reducible refine (send_nil_f now _ _ _ _).mono ?_); rintro e w4 ⟨rfl, hb4⟩; have hB := hM.below hb4))
    | (go_at_call 19; ((with_reducible refine (next_nil_f _).mono ?_); rintro e w8 ⟨rfl, hb8⟩; have hF := hE.below hb8; have hF' := hF.alloc (.cells #[.int .i64 0, .int .i64 0, .string ⟨#[]⟩] 31)))
    | (go_at_call 19; ((with_reducible refine (next_law20 hG' HEL.out).mono ?_); rintro e w10 ⟨rfl, hK⟩; have hK' := hK.alloc (.cells #[.int .i64 0, .int .i64 0, .string ⟨#[]⟩] 31); have hKs := hK'.symm))
    | (go_at_call 19; ((with_reducible refine (next_law20 hF'.symm HZL.out).mono ?_); rintro e w9 ⟨rfl, hG⟩; have hG' := (hG.alloc (.cells #[.int .i64 0, .int .i64 0, .string ⟨#[]⟩] 31)).symm))
    | (go_at_call 21; ((with_reducible refine (waiting_nil _).mono ?_); rintro e w' ⟨rfl, rfl⟩))
    | (go_at_call 21; ((with_reducible refine (waiting_is2 0 hK' HEW.out).mono ?_); rintro e w' ⟨rfl, rfl⟩))
    | (go_at_call 21; ((with_reducible refine (waiting_is2 0 hKs HZW.out).mono ?_); rintro e w' ⟨rfl, rfl⟩)))
  go_ret
  exact ⟨rfl, hK'.bel⟩
end Go.Proofs.Ytffijemgcgbjoaa
