/- EqualProves: what Prove returns is right; with another d it commits to something else. -/
import Derived.Test.YtjnnnciifjajmaaDoorSaneE
import Derived.Test.YtjnnnciifjajmaaDoorPwr
namespace Go.Proofs.YtjnnnciifjajmaaDoor
open Go.RowKit FP

theorem powE_inj {a b n : Int} (ha : El a) (hb : El b) (hn : n % 1073741789 ≠ 0) (h : powE a n = powE b n) : a = b := by
  have h2 := inv_ex hn
  have h3 : powE (powE a n) (powR n 1073741787) = powE (powE b n) (powR n 1073741787) := by rw [h]
  rw [powE_mul ha, powE_mul hb, Int.mul_comm, powE_same (n := 1) (by rw [h2]; rfl), powE_1 ha, powE_same (a := b) (n := 1) (by rw [h2]; rfl), powE_1 hb] at h3
  exact h3
theorem sE_ne {a d o E : Int} (S : Int) (ha : El a) (hd : El d) (ho : El o) (hE : 0 ≤ E ∧ E < 1073741789) (h0 : E ≠ 0) (h : o ≠ d) : sE a d E S ≠ sE a o E S := by
  intro e
  unfold sE at e
  rw [el_comm, el_comm (powE a S)] at e
  have e2 := el_cancel (el_powE hd _) (el_powE ho _) (el_powE ha S) e
  exact h (powE_inj hd ho (by omega) e2).symm
set_option maxRecDepth 100000 in
theorem form_val (key a d E S : Int) (h : Form key a d E S) (w : World) :
    Calls Tryd.prog 42 #[.int .i64 key, .int .i64 a, .int .i64 d, .agg #[.int .i64 E, .int .i64 S]] w fun e w' => e = .returned (.bool true) ∧ Below w.heap.size w w' := by
  have := formed12_any key a d E S w h.k.r64 h.a.r64 h.d.r64 ⟨by have := h.E; omega, by have := h.E; omega⟩ ⟨by have := h.S; omega, by have := h.S; omega⟩
  rw [form_iff.2 h] at this
  exact this
theorem honest_form {a : Int} (ha : El a) (x : Int) : Form (powE 4 x) a (powE a x) (prE x a) (prS x a) := ⟨el_powE el_four x, ha, el_powE ha x, prE_num x a, prS_num x a⟩
theorem Form.r64E {key a d E S : Int} (h : Form key a d E S) : R64 E ∧ R64 S := ⟨⟨by have := h.E; omega, by have := h.E; omega⟩, ⟨by have := h.S; omega, by have := h.S; omega⟩⟩
set_option maxRecDepth 100000 in
theorem honest_check {a : Int} (ha : El a) (x : Int) (w : World) (hG : Glob w) :
    Calls Tryd.prog 13 #[.int .i64 (powE 4 x), .int .i64 a, .int .i64 (powE a x), .agg #[.int .i64 (prE x a), .int .i64 (prS x a)]] w fun e w' => e = .returned (.bool true) ∧ Below w.heap.size w w' :=
  check_val true _ _ _ _ _ (el_powE el_four x).r64 ha.r64 (el_powE ha x).r64 (honest_form ha x).r64E.1 (honest_form ha x).r64E.2 (chkB_honest ha x) w hG

end Go.Proofs.YtjnnnciifjajmaaDoor
