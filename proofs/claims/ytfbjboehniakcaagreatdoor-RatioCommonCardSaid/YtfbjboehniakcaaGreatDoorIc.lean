/- Slices of strings of the call's own; lists of numbers in memory; Common of both. -/
import Derived.Test.YtfbjboehniakcaaGreatDoorIb
namespace Go.Proofs.YtfbjboehniakcaaGreatDoor
open Go.RowKit W
open Pl (bval enc bv nb bv_nb nb_size_le nb_size_zero nb_size_mono nb_bv_size bv_lt cmpN nb_inj)
open Rq
theorem info_str : (Tryz.prog.info? 25).map (fun i => (i.zero, i.size, i.bytes)) = some (some (.string ⟨#[]⟩), 1, 16) := by kernel_rfl
/-- v is a slice of strings that reads as l, in a block from B on -/
def Strs (w : World) (B : Nat) (v : Value) (l : List ByteArray) : Prop := w.ownsRow B 25 1 v l.length (l.map Value.string)
theorem Strs.nil (w : World) (B : Nat) : Strs w B (.slice none 0 0) [] := World.ownsRow_nil w B _ 1
theorem Strs.form {w : World} {B : Nat} {v : Value} {l : List ByteArray} (h : Strs w B v l) : ∃ a cap, v = .slice a l.length cap := by
  rcases h.2 with ⟨rfl, hn⟩ | ⟨g, cap, cur, rfl, hb, hg, hnc, hcm, hcs, htake⟩
  · exact ⟨none, 0, by rw [hn]⟩
  · exact ⟨_, cap, rfl⟩
theorem Strs.own {w : World} {B : Nat} {v : Value} {l : List ByteArray} (h : Strs w B v l) : ∀ k, v.ownBlock = some k → B ≤ k := fun k hk => (World.ownsRow.lt h k hk).1
theorem Strs.alloc {w : World} {B : Nat} {v : Value} {l : List ByteArray} (h : Strs w B v l) (o : Obj) : Strs (w.alloc o) B v l := World.ownsRow.alloc h o
theorem Strs.below {w w' : World} {B : Nat} {v : Value} {l : List ByteArray} (h : Strs w B v l) (hb : Below w.heap.size w w') : Strs w' B v l := by
  rcases h.2 with ⟨rfl, hn⟩ | ⟨g, cap, cur, rfl, hb2, hg, hnc, hcm, hcs, htake⟩
  · exact ⟨h.1, .inl ⟨rfl, hn⟩⟩
  · exact ⟨h.1, .inr ⟨g, cap, cur, rfl, hb2, by rw [hb.block g (Array.getElem?_eq_some_iff.1 hg).1]; exact hg, hnc, hcm, hcs, htake⟩⟩
theorem app_str {w : World} {ops : Array Oper} {rest : List Oper} {o : Oper} {a : Act} {Q : Exit → Act → World → Prop} {s x : Operand} {v : Value} {l : List ByteArray} {z : ByteArray}
    (hgd : o.guard = none)
    (ho : o.op = .call { callee := .builtin .append, args := #[s, x], argTypes := #[46, 46] })
    (hs : a.eval s = v) (hx : a.eval x = .slice (some ⟨w.heap.size, 0, none⟩) 1 1) (B : Nat) (hown : Strs w B v l)
    (hlen : l.length < 1000000000) (hB : B ≤ w.heap.size)
    (h : ∀ v' w', Strs w' B v' (l ++ [z]) → w.grownBy w' v.ownBlock → wpList Tryz.prog ops Q rest (a.put o.dst v') w') : wpList Tryz.prog ops Q (o :: rest) a (w.alloc (.cells #[.string z] 25)) := by
  obtain ⟨i0, hi, hz0, hz1, hz2⟩ := info_parts info_str
  refine wpList_append_own _ hgd s x 46 ho B 25 i0 (.string ⟨#[]⟩) 1 16 Tryz.underlying46 hi hz0 hz1 hz2 rfl (by decide) v _ _ hs (hown.alloc _) ⟨w.heap.size, 0, none⟩ 1 1 [.string z] hx rfl (cell_one_new _ _ _) ?_ (by unfold maxLen; omega) (by omega) (by simp; omega) ?_
  · intro u hu; simp at hu; subst hu; rfl
  · intro v' w' h1 h2 _
    refine h v' w' ?_ (grownBy_alloc_trans h2)
    unfold Strs; rw [List.length_append, List.map_append]; exact h1
/-- three parts of a number, right or not -/
structure Raw where
  neg : Bool
  s : ByteArray
  t : ByteArray
def RawsR (w : World) (v : Value) (l : List Raw) : Prop := ∃ a cap, v = .slice a l.length cap ∧ (0 < l.length → ∃ b, a = some ⟨b, 0, none⟩ ∧ b < w.heap.size ∧ ∀ i (h : i < l.length), w.cell? ⟨b, i * 3, none⟩ = some (.bool l[i].neg) ∧ w.cell? ⟨b, i * 3 + 1, none⟩ = some (.string l[i].s) ∧ w.cell? ⟨b, i * 3 + 1 + 1, none⟩ = some (.string l[i].t))
theorem RawsR.below {w w' : World} {v : Value} {l : List Raw} (h : RawsR w v l) (hb : Below w.heap.size w w') : RawsR w' v l := by
  obtain ⟨a, cap, rfl, h1⟩ := h
  refine ⟨a, cap, rfl, fun h0 => ?_⟩
  obtain ⟨b, e, hlt, hc⟩ := h1 h0
  exact ⟨b, e, Nat.lt_of_lt_of_le hlt hb.size, fun i hi => ⟨(hb.cell (p := ⟨b, i * 3, none⟩) hlt).trans (hc i hi).1, (hb.cell (p := ⟨b, i * 3 + 1, none⟩) hlt).trans (hc i hi).2.1, (hb.cell (p := ⟨b, i * 3 + 1 + 1, none⟩) hlt).trans (hc i hi).2.2⟩⟩
/-- the least common denominator, begun with d -/
def comD : List Raw → Nat → Option Nat
  | [], d => some d
  | x :: l, d => if rawB x.neg x.s x.t = true ∧ x.neg = false then comD l (d * (bv x.t / Nat.gcd d (bv x.t))) else none
def comS (l : List Raw) : ByteArray := match comD l 1 with | none => ⟨#[]⟩ | some D => nb D
def comL (l : List Raw) : List ByteArray := match comD l 1 with | none => [] | some D => l.map fun x => nb (bv x.s * (D / bv x.t))
def comB (l : List Raw) : Bool := (comD l 1).isSome
theorem com_none {l : List Raw} (h : comD l 1 = none) : comS l = ⟨#[]⟩ ∧ comL l = [] ∧ comB l = false := by unfold comS comL comB; rw [h]; exact ⟨rfl, rfl, rfl⟩
theorem com_some {l : List Raw} {D : Nat} (h : comD l 1 = some D) : comS l = nb D ∧ comL l = (l.map fun x => nb (bv x.s * (D / bv x.t))) ∧ comB l = true := by unfold comS comL comB; rw [h]; exact ⟨rfl, rfl, rfl⟩
theorem rawB_pos {neg : Bool} {s t : ByteArray} (h : rawB neg s t = true) : 0 < bv t := by
  simp only [rawB, Bool.and_eq_true, decide_eq_true_eq] at h
  exact right_pos h.1.1.1.2 h.1.1.2
theorem comD_pos : ∀ (l : List Raw) (d D : Nat), comD l d = some D → ∀ x ∈ l, 0 < bv x.t
  | [], _, _, _, x, hx => by cases hx
  | y :: l, d, D, h, x, hx => by
    unfold comD at h
    split at h
    · next hc =>
      rcases List.mem_cons.1 hx with rfl | hx
      · exact rawB_pos hc.1
      · exact comD_pos l _ D h x hx
    · cases h
/-- what is left to do behind the first k elements -/
def ComI (l : List Raw) (k d : Nat) : Prop := comD l 1 = comD (l.drop k) d ∧ 0 < d ∧ (nb d).size ≤ 1000 * k + 8
theorem ComI.start (l : List Raw) : ComI l 0 1 := ⟨by simp, by decide, nbs (by decide) (by omega)⟩
theorem ComI.bad {l : List Raw} {k d : Nat} (h : ComI l k d) (hk : k < l.length) (hb : ¬ (rawB l[k].neg l[k].s l[k].t = true ∧ l[k].neg = false)) : comD l 1 = none := by
  rw [h.1, List.drop_eq_getElem_cons hk, comD, if_neg hb]
theorem ComI.next {l : List Raw} {k d : Nat} (h : ComI l k d) (hk : k < l.length) (hb : rawB l[k].neg l[k].s l[k].t = true) (hn : l[k].neg = false) (hz : l[k].t.size ≤ 1000) : ComI l (k + 1) (d * (bv l[k].t / Nat.gcd d (bv l[k].t))) := by
  refine ⟨by rw [h.1, List.drop_eq_getElem_cons hk, comD, if_pos ⟨hb, hn⟩], ?_, ?_⟩
  · have := rawB_pos hb
    exact Nat.mul_pos h.2.1 (Nat.div_pos (Nat.le_of_dvd this (Nat.gcd_dvd_right _ _)) (Nat.gcd_pos_of_pos_right _ this))
  · have := size_mul h.2.2 (div_size (y := Nat.gcd d (bv l[k].t)) (bv_bound hz))
    omega
theorem ComI.done {l : List Raw} {d : Nat} (h : ComI l l.length d) : comD l 1 = some d := by rw [h.1, List.drop_length]; rfl
theorem take_map_succ {α β : Type} (l : List α) (f : α → β) (k : Nat) (hk : k < l.length) : (l.map f).take (k + 1) = (l.map f).take k ++ [f l[k]] := by
  rw [List.take_add_one, List.getElem?_eq_getElem (by simpa using hk)]; simp
set_option maxRecDepth 100000 in
set_option maxHeartbeats 8000000 in
theorem acommon_any (l : List Raw) (v : Value) (w : World) (h : RawsR w v l) (hl : l.length ≤ 1000) (hz : ∀ x ∈ l, x.s.size ≤ 1000 ∧ x.t.size ≤ 1000) :
    Calls Tryz.prog 23 #[v] w fun e w' => (∃ vo, e = .returned (.tuple #[.string (comS l), vo, .bool (comB l)]) ∧ Strs w' w.heap.size vo (comL l)) ∧ Below w.heap.size w w' := by
  have hr := h
  obtain ⟨a, cap, rfl, hcell⟩ := h
  have Hcell := Lib.hid hcell
  clear hcell
  go_enter Tryz.func23, Tryz.ntmps23
  go_wp2_with fail
  go_loopw [5, 19] (fun d i wr => ∃ k dd : Nat, k ≤ l.length ∧ i = .int .i64 k ∧ d = .string (nb dd) ∧ ComI l k dd ∧ Below w.heap.size w wr) (fun _ i _ => l.length - (intOf i).toNat)
  case atStart => exact ⟨0, 1, by omega, rfl, by rw [nb_1], ComI.start l, Below.refl _ _⟩
  case round =>
    obtain ⟨k, dd, hk, rfl, rfl, hI, hacc⟩ := hrel
    have HI := Lib.hid hI
    obtain ⟨_, dpos, dsz⟩ := hI
    by_cases hlt : k < l.length
    · obtain ⟨b, rfl, hbl, hc⟩ := Hcell.out (by omega)
      obtain ⟨c0, c1, c2⟩ := hc k hlt
      have c0 := (hacc.cell (p := ⟨b, k * 3, none⟩) hbl).trans c0
      have c1 := (hacc.cell (p := ⟨b, k * 3 + 1, none⟩) hbl).trans c1
      have c2 := (hacc.cell (p := ⟨b, k * 3 + 1 + 1, none⟩) hbl).trans c2
      clear hc
      obtain ⟨zs, zt⟩ := hz l[k] (List.getElem_mem _)
      have HN := Lib.hid (fun h1 h2 => HI.out.next hlt h1 h2 zt)
      have HX := Lib.hid (fun h1 => HI.out.bad hlt h1)
      generalize l[k].neg = xn at *
      generalize l[k].s = xs at *
      generalize l[k].t = xt at *
      have hk0 : (0 : Int) ≤ (k : Int) := by omega
      have hk1 : (k : Int) < (l.length : Int) := by omega
      have bX : Rx (wr.alloc (.cells #[.bool xn, .string xs, .string xt] 27)) wr.heap.size [.bool xn, .string xs, .string xt] := Rx.new wr _ rfl [.bool xn, .string xs, .string xt] 27
      have hacc := hacc.alloc hacc.size (.cells #[.bool xn, .string xs, .string xt] 27)
      have d0 := bX.at 0 rfl
      have d1 := bX.at 1 rfl
      have d2 := bX.at 2 rfl
      go_wp2_with fail
      clear c0 c1 c2
      generalize wr.heap.size = gX at *
      generalize wr.alloc (.cells #[.bool xn, .string xs, .string xt] 27) = WX at *
      clear d0 d1 d2
      by_cases hB : rawB xn xs xt = true
      · cases xn
        · have hp := rawB_pos hB
          have HI2 := Lib.hid (HN.out hB rfl)
          have hg : 0 < Nat.gcd dd (bv xt) := Nat.gcd_pos_of_pos_right _ hp
          have sg : (nb (Nat.gcd dd (bv xt))).size ≤ 1000 := Nat.le_trans (nb_size_mono (Nat.le_of_dvd hp (Nat.gcd_dvd_right _ _))) (bv_bound zt)
          have sq : (nb (bv xt / Nat.gcd dd (bv xt))).size ≤ 1000 := div_size (bv_bound zt)
          with_reducible refine (aright_any false xs xt _ (by omega) (by omega)).mono ?_
          rw [hB]
          rintro e wZ ⟨rfl, hbX⟩
          have hacc := hacc.trans (hbX.mono hacc.size)
          have bX := bX.below hbX
          clear hbX
          have d0 := bX.at 0 rfl
          have d2 := bX.at 2 rfl
          go_upto_region 7 with fail
          have hacc := hacc.drew
          have bX := bX.drew
          go_region_held3 (fun w' => w'.cell? ⟨gX, 2, none⟩ = some (.string xt)) (first | with_reducible exact bX.at 2 rfl | go_keep) (first | (go_at_call 62; with_reducible refine (ngcd_any (nb dd) xt _ (by omega) (by omega)).mono ?_; rw [bv_nb]; rintro e wX ⟨rfl, hbX⟩; have hacc := hacc.trans (hbX.mono hacc.size); have bX := bX.below hbX; clear hbX) | (go_at_call 61; with_reducible refine (nquo_any xt (nb (Nat.gcd dd (bv xt))) _ (by omega) (by omega) (by rw [bv_nb]; exact hg)).mono ?_; rw [bv_nb]; rintro e wX ⟨rfl, hbX⟩; have hacc := hacc.trans (hbX.mono hacc.size); have bX := bX.below hbX; clear hbX))
          clear d0 d2
          all_goals
            go_wp2_with fail
            with_reducible refine (nmul_any (nb dd) (nb (bv xt / Nat.gcd dd (bv xt))) _ (by omega) (by omega)).mono ?_
            rw [bv_nb, bv_nb]
            rintro e wY ⟨rfl, hbX⟩
            have hacc := hacc.trans (hbX.mono hacc.size)
            clear hbX
            go_wp2_with fail
            go_roundw
            case rel => exact ⟨k + 1, _, by omega, by go_num, rfl, HI2.out, hacc⟩
            case measure => simp [intOf]; omega
        · have HE := Lib.hid (com_none (HX.out (fun h => by simp at h)))
          with_reducible refine (aright_any true xs xt _ (by omega) (by omega)).mono ?_
          rw [hB]
          rintro e wZ ⟨rfl, hbX⟩
          have hacc := hacc.trans (hbX.mono hacc.size)
          have bX := bX.below hbX
          clear hbX
          have d0 := bX.at 0 rfl
          go_wp2_with fail
          refine bodyPost_ret (v := .tuple #[.string ⟨#[]⟩, .slice none 0 0, .bool false]) (by simp [results, Tryz.results23, go_sem]) rfl ⟨⟨_, by rw [HE.out.1, HE.out.2.2], by rw [HE.out.2.1]; exact Strs.nil _ _⟩, hacc⟩
      · have hB' : rawB xn xs xt = false := by simpa using hB
        have HE := Lib.hid (com_none (HX.out (fun h => hB h.1)))
        with_reducible refine (aright_any xn xs xt _ (by omega) (by omega)).mono ?_
        rw [hB']
        rintro e wZ ⟨rfl, hbX⟩
        have hacc := hacc.trans (hbX.mono hacc.size)
        have bX := bX.below hbX
        clear hbX
        have d0 := bX.at 0 rfl
        go_wp2_with fail
        refine bodyPost_ret (v := .tuple #[.string ⟨#[]⟩, .slice none 0 0, .bool false]) (by simp [results, Tryz.results23, go_sem]) rfl ⟨⟨_, by rw [HE.out.1, HE.out.2.2], by rw [HE.out.2.1]; exact Strs.nil _ _⟩, hacc⟩
    · obtain rfl : k = l.length := by omega
      have hD := HI.out.done
      have HE := Lib.hid (com_some hD)
      have HP := Lib.hid (comD_pos l 1 dd hD)
      clear hD
      go_wp2_with fail
      go_loopw [11, 47] (fun o i wr => ∃ k : Nat, k ≤ l.length ∧ i = .int .i64 k ∧ Strs wr w.heap.size o ((l.map fun x => nb (bv x.s * (dd / bv x.t))).take k) ∧ Below w.heap.size w wr) (fun _ i _ => l.length - (intOf i).toNat)
      case atStart => exact ⟨0, by omega, rfl, Strs.nil _ _, hacc⟩
      case round =>
        clear hacc
        obtain ⟨k, hk, rfl, hS, hacc⟩ := hrel
        by_cases hlt : k < l.length
        · obtain ⟨b, rfl, hbl, hc⟩ := Hcell.out (by omega)
          obtain ⟨c0, c1, c2⟩ := hc k hlt
          have c0 := (hacc.cell (p := ⟨b, k * 3, none⟩) hbl).trans c0
          have c1 := (hacc.cell (p := ⟨b, k * 3 + 1, none⟩) hbl).trans c1
          have c2 := (hacc.cell (p := ⟨b, k * 3 + 1 + 1, none⟩) hbl).trans c2
          clear hc
          obtain ⟨zs, zt⟩ := hz l[k] (List.getElem_mem _)
          have hp := HP.out l[k] (List.getElem_mem _)
          have hT := Lib.hid (take_map_succ l (fun x => nb (bv x.s * (dd / bv x.t))) k hlt)
          have hln : ((l.map fun x => nb (bv x.s * (dd / bv x.t))).take k).length < 1000000000 := by simp; omega
          generalize hL : (l.map fun x => nb (bv x.s * (dd / bv x.t))).take k = L at *
          clear hL
          generalize l[k].neg = xn at *
          generalize l[k].s = xs at *
          generalize l[k].t = xt at *
          have hk0 : (0 : Int) ≤ (k : Int) := by omega
          have hk1 : (k : Int) < (l.length : Int) := by omega
          have bX : Rx (wr.alloc (.cells #[.bool xn, .string xs, .string xt] 27)) wr.heap.size [.bool xn, .string xs, .string xt] := Rx.new wr _ rfl [.bool xn, .string xs, .string xt] 27
          have hS := hS.alloc (.cells #[.bool xn, .string xs, .string xt] 27)
          have hacc := hacc.alloc hacc.size (.cells #[.bool xn, .string xs, .string xt] 27)
          have d1 := bX.at 1 rfl
          have d2 := bX.at 2 rfl
          go_wp2_with fail
          clear c0 c1 c2
          generalize wr.heap.size = gX at *
          generalize wr.alloc (.cells #[.bool xn, .string xs, .string xt] 27) = WX at *
          clear d1 d2
          have sD : (nb (dd / bv xt)).size ≤ 1000008 := div_size (by omega)
          with_reducible refine (nquo_any (nb dd) xt _ (by omega) (by omega) hp).mono ?_
          rw [bv_nb]
          rintro e wZ ⟨rfl, hbX⟩
          have hacc := hacc.trans (hbX.mono hacc.size)
          have bX := bX.below hbX
          have hS := hS.below hbX
          clear hbX
          have d1 := bX.at 1 rfl
          go_wp2_with fail
          clear d1
          with_reducible refine (nmul_any xs (nb (dd / bv xt)) _ (by omega) (by omega)).mono ?_
          rw [bv_nb]
          rintro e wY ⟨rfl, hbX⟩
          have hacc := hacc.trans (hbX.mono hacc.size)
          have hS := hS.below hbX
          clear hbX
          go_wp2_with (at_builtin; refine app_str (by rfl) (by rfl) (by rfl) (by rfl) w.heap.size hS hln hacc.size ?_; intro v' w1 hl1 hg1)
          go_wp2_with fail
          go_roundw
          case rel => exact ⟨k + 1, by omega, by go_num, by rw [hT.out]; exact hl1, hacc.grown hg1 hacc.size hS.own⟩
          case measure => simp [intOf]; omega
        · obtain rfl : k = l.length := by omega
          have hfull : (l.map fun x => nb (bv x.s * (dd / bv x.t))).take l.length = comL l := by rw [HE.out.2.1, List.take_of_length_le (by simp)]
          rw [hfull] at hS
          clear hfull
          obtain ⟨ao, co, rfl⟩ := hS.form
          go_wp2_with fail
          refine bodyPost_ret (v := .tuple #[.string (nb dd), .slice ao (comL l).length co, .bool true]) (by simp [results, Tryz.results23, go_sem]) rfl ⟨⟨_, by rw [HE.out.1, HE.out.2.2], hS⟩, hacc⟩
end Go.Proofs.YtfbjboehniakcaaGreatDoor
