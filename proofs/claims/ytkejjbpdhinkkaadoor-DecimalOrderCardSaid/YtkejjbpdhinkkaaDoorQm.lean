/- Plain facts for the laws DecimalRing and DecimalOrder. -/
import Derived.Test.YtkejjbpdhinkkaaDoorQ
namespace Pl
open Go.Lib
theorem ring_ex {a1 a2 b1 b2 c1 c2 : Int} (rA : rightB a1 a2 = true)
    (hA : -1000000000000 < uv a1 a2 ∧ uv a1 a2 < 1000000000000) (hB : -1000000000000 < uv b1 b2 ∧ uv b1 b2 < 1000000000000) (hC : -1000000000000 < uv c1 c2 ∧ uv c1 c2 < 1000000000000) :
    ∃ x1 x2 y1 y2 t1 t2 : Int, fitO (uv a1 a2 + uv b1 b2) 6 = some (x1, x2) ∧ fitO (uv b1 b2 + uv a1 a2) 6 = some (x1, x2) ∧ fitO (uv b1 b2 + uv c1 c2) 6 = some (y1, y2) ∧
      fitO (uv x1 x2 + uv c1 c2) 6 = some (t1, t2) ∧ fitO (uv a1 a2 + uv y1 y2) 6 = some (t1, t2) ∧ fitO (uv x1 x2 - uv b1 b2) 6 = some (a1, a2) ∧
      (fitO (vn b1 b2 * vn a1 a2) (vs b1 b2 + vs a1 a2).toNat = fitO (vn a1 a2 * vn b1 b2) (vs a1 a2 + vs b1 b2).toNat) ∧
      (∀ pm pn po ps : Int × Int, fitO (vn a1 a2 * vn y1 y2) (vs a1 a2 + vs y1 y2).toNat = some pm → fitO (vn a1 a2 * vn b1 b2) (vs a1 a2 + vs b1 b2).toNat = some pn →
        fitO (vn a1 a2 * vn c1 c2) (vs a1 a2 + vs c1 c2).toNat = some po → fitO (uv pn.1 pn.2 + uv po.1 po.2) 6 = some ps → pm = ps) := by
  obtain ⟨⟨x1, x2⟩, hx⟩ := fit_ex (n := uv a1 a2 + uv b1 b2) (s := 6) (by omega) (by omega) (by omega)
  obtain ⟨⟨y1, y2⟩, hy⟩ := fit_ex (n := uv b1 b2 + uv c1 c2) (s := 6) (by omega) (by omega) (by omega)
  obtain ⟨⟨t1, t2⟩, ht⟩ := fit_ex (n := uv a1 a2 + uv b1 b2 + uv c1 c2) (s := 6) (by omega) (by omega) (by omega)
  have ux := fit_uv hx
  have uy := fit_uv hy
  simp only at ux uy
  refine ⟨x1, x2, y1, y2, t1, t2, hx, by rw [Int.add_comm]; exact hx, hy, by rw [ux]; exact ht, by rw [uy, ← Int.add_assoc]; exact ht, ?_, by rw [Int.mul_comm, Int.add_comm], ?_⟩
  · rw [ux, show uv a1 a2 + uv b1 b2 - uv b1 b2 = uv a1 a2 by omega]; exact uv_fit rA
  · intro pm pn po ps h1 h2 h3 h4
    have e1 := mul_uv h1
    have e2 := mul_uv h2
    have e3 := mul_uv h3
    have e4 := fit_uv h4
    rw [uy, Int.mul_add] at e1
    have := uv_inj (fitO_right h1) (fitO_right h4) (by omega)
    exact Prod.ext this.1 this.2
theorem eq_cmp {n s m t : Int} (h : rightB n s = true) (g : rightB m t = true) : (cmpI (uv n s) (uv m t) == 0) = (n == m && s == t) := by
  rw [Bool.eq_iff_iff]
  simp only [beq_iff_eq, Bool.and_eq_true]
  rw [cmpI_zero]
  exact ⟨fun e => uv_inj h g e, fun ⟨e1, e2⟩ => by rw [e1, e2]⟩
end Pl
