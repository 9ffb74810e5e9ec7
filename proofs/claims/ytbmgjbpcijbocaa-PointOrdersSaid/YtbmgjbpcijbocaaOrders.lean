/- The law PointOrders is proved: of every two points, Same and Cmp answer as the reference's order does. No condition. -/
import Derived.Test.YtbmgjbpcijbocaaRows
import Derived.Test.YtbmgjbpcijbocaaRef
import Derived.WalkKit
import Derived.ProofKit
import Derived.OpenShut
import Derived.Lib.SmallJoins
namespace Go.Proofs.Ytbmgjbpcijbocaa

/-- The boxes of two points, and that nothing of what was there has turned. -/
def Boxed2 (w : World) (p q r s : Value) (w' : World) : Prop :=
  w'.cell? ⟨w.heap.size, 0, none⟩ = some p ∧ w'.cell? ⟨w.heap.size, 1, none⟩ = some q ∧ w'.cell? ⟨w.heap.size + 1, 0, none⟩ = some r ∧ w'.cell? ⟨w.heap.size + 1, 1, none⟩ = some s ∧ w.heap.size + 2 ≤ w'.heap.size ∧ Go.RowKit.Below w.heap.size w w'

theorem Boxed2.start (w : World) (p q r s : Value) (t u : TypeId) : Boxed2 w p q r s ((w.alloc (.cells #[p, q] t)).alloc (.cells #[r, s] u)) := by
  refine ⟨?_, ?_, ?_, ?_, ?_, below_two w _ _⟩ <;> go_simp

theorem Boxed2.step {w W w' : World} {p q r s : Value} (h : Boxed2 w p q r s W) (hb : Go.RowKit.Below W.heap.size W w') : Boxed2 w p q r s w' :=
  two_step h.1 h.2.1 h.2.2.1 h.2.2.2.1 h.2.2.2.2.1 h.2.2.2.2.2 hb

theorem Boxed2.below {w W : World} {p q r s : Value} (h : Boxed2 w p q r s W) : Go.RowKit.Below w.heap.size w W := h.2.2.2.2.2

end Go.Proofs.Ytbmgjbpcijbocaa
namespace Go.Proofs.Ytbmgjbpcijbocaa.pointOrders
open Go.ChangeShapes Go.WideShapes Go.ChangeAt Go.RowKit Go.Joins

theorem own : ownKnob Try.prog.godebug = none := by kernel_rfl
theorem cells25 : Try.prog.cellsOf 25 = 2 := by kernel_rfl

theorem bounds {b : Int} (h : (Lit.int .i64 b).wf = true) : In64 b := by
  simp [Lit.wf, IntKind.min, IntKind.max, IntKind.bits, IntKind.signed] at h
  exact ⟨by omega, by omega⟩

set_option maxHeartbeats 1000000 in
theorem yes_core (ax ay bx bY o : Int) (w : World)
    (hs : ∀ w, Calls Try.prog 13 #[.agg #[.int .i64 ax, .int .i64 ay], .agg #[.int .i64 bx, .int .i64 bY]] w (Ends w (.tuple #[.bool (o == 0), .int .i64 0])))
    (hc : ∀ w, Calls Try.prog 11 #[.agg #[.int .i64 ax, .int .i64 ay], .agg #[.int .i64 bx, .int .i64 bY]] w (Ends w (.tuple #[.int .i64 o, .int .i64 0])))
    (hx : ∀ w, Calls Try.prog 14 #[.agg #[.int .i64 ax, .int .i64 ay]] w (Ends w (.bool true))) (hy : ∀ w, Calls Try.prog 14 #[.agg #[.int .i64 bx, .int .i64 bY]] w (Ends w (.bool true)))
    (hr : ∀ w, Calls Try.prog 15 #[.agg #[.int .i64 ax, .int .i64 ay], .agg #[.int .i64 bx, .int .i64 bY]] w (Ends w (.int .i64 o))) :
    Calls Try.prog 5 #[.agg #[.int .i64 ax, .int .i64 ay], .agg #[.int .i64 bx, .int .i64 bY]] w (Ends w (.bool true)) := by
  have S := Boxed2.start w (.int .i64 ax) (.int .i64 ay) (.int .i64 bx) (.int .i64 bY) 25 25
  have ha := alive_any
  go_enter Try.func5, Try.ntmps5
  go_wp2_with (first
    | (go_at_call 8; refine (ha _).mono ?_; rintro e w1 ⟨rfl, hb⟩; (have S1 := S.step hb); clear S hb; have S := S1; obtain ⟨c1, c2, c3, c4, -⟩ := S1)
    | (go_at_call 13; refine (hs _).mono ?_; rintro e w2 ⟨rfl, hb⟩; (have S1 := S.step hb); clear S hb c1 c2 c3 c4; have S := S1; obtain ⟨c1, c2, c3, c4, -⟩ := S1)
    | (go_at_call 11; refine (hc _).mono ?_; rintro e w3 ⟨rfl, hb⟩; (have S1 := S.step hb); clear S hb c1 c2 c3 c4; have S := S1; obtain ⟨c1, c2, c3, c4, -⟩ := S1)
    | (go_at_call 14; (with_reducible refine (hx _).mono ?_); rintro e w4 ⟨rfl, hb⟩; (have S1 := S.step hb); clear S hb c1 c2 c3 c4; have S := S1; obtain ⟨c1, c2, c3, c4, -⟩ := S1)
    | (go_at_call 14; (with_reducible refine (hy _).mono ?_); rintro e w5 ⟨rfl, hb⟩; (have S1 := S.step hb); clear S hb c1 c2 c3 c4; have S := S1; obtain ⟨c1, c2, c3, c4, -⟩ := S1)
    | (go_at_call 15; refine (hr _).mono ?_; rintro e w6 ⟨rfl, hb⟩; (have S1 := S.step hb); clear S hb c1 c2 c3 c4; have S := S1; obtain ⟨c1, c2, c3, c4, -⟩ := S1)
    | (go_at_call 12; refine (num_any _ _).mono ?_; rintro e w' ⟨rfl, rfl⟩))
  go_ret
  exact ⟨rfl, S.below⟩

set_option maxHeartbeats 1000000 in
theorem no_core (ax ay bx bY : Int) (p q : Bool) (hpq : (p && q) = false) (w : World)
    (hs : ∀ w, Calls Try.prog 13 #[.agg #[.int .i64 ax, .int .i64 ay], .agg #[.int .i64 bx, .int .i64 bY]] w (Ends w (.tuple #[.bool false, .int .i64 10])))
    (hc : ∀ w, Calls Try.prog 11 #[.agg #[.int .i64 ax, .int .i64 ay], .agg #[.int .i64 bx, .int .i64 bY]] w (Ends w (.tuple #[.int .i64 0, .int .i64 10])))
    (hx : ∀ w, Calls Try.prog 14 #[.agg #[.int .i64 ax, .int .i64 ay]] w (Ends w (.bool p))) (hy : ∀ w, Calls Try.prog 14 #[.agg #[.int .i64 bx, .int .i64 bY]] w (Ends w (.bool q))) :
    Calls Try.prog 5 #[.agg #[.int .i64 ax, .int .i64 ay], .agg #[.int .i64 bx, .int .i64 bY]] w (Ends w (.bool true)) := by
  have S := Boxed2.start w (.int .i64 ax) (.int .i64 ay) (.int .i64 bx) (.int .i64 bY) 25 25
  have ha := alive_any
  cases p with
  | false =>
    clear hpq
    go_enter Try.func5, Try.ntmps5
    go_wp2_with (first
      | (go_at_call 8; refine (ha _).mono ?_; rintro e w1 ⟨rfl, hb⟩; (have S1 := S.step hb); clear S hb; have S := S1; obtain ⟨c1, c2, c3, c4, -⟩ := S1)
      | (go_at_call 13; refine (hs _).mono ?_; rintro e w2 ⟨rfl, hb⟩; (have S1 := S.step hb); clear S hb c1 c2 c3 c4; have S := S1; obtain ⟨c1, c2, c3, c4, -⟩ := S1)
      | (go_at_call 11; refine (hc _).mono ?_; rintro e w3 ⟨rfl, hb⟩; (have S1 := S.step hb); clear S hb c1 c2 c3 c4; have S := S1; obtain ⟨c1, c2, c3, c4, -⟩ := S1)
      | (go_at_call 14; (with_reducible refine (hx _).mono ?_); rintro e w4 ⟨rfl, hb⟩; (have S1 := S.step hb); clear S hb c1 c2 c3 c4; have S := S1; obtain ⟨c1, c2, c3, c4, -⟩ := S1)
      | (go_at_call 14; (with_reducible refine (hy _).mono ?_); rintro e w5 ⟨rfl, hb⟩; (have S1 := S.step hb); clear S hb c1 c2 c3 c4; have S := S1; obtain ⟨c1, c2, c3, c4, -⟩ := S1)
      | (go_at_call 12; refine (num_any _ _).mono ?_; rintro e w' ⟨rfl, rfl⟩))
    go_ret
    exact ⟨rfl, S.below⟩
  | true =>
    obtain rfl : q = false := by simpa using hpq
    clear hpq
    go_enter Try.func5, Try.ntmps5
    go_wp2_with (first
      | (go_at_call 8; refine (ha _).mono ?_; rintro e w1 ⟨rfl, hb⟩; (have S1 := S.step hb); clear S hb; have S := S1; obtain ⟨c1, c2, c3, c4, -⟩ := S1)
      | (go_at_call 13; refine (hs _).mono ?_; rintro e w2 ⟨rfl, hb⟩; (have S1 := S.step hb); clear S hb c1 c2 c3 c4; have S := S1; obtain ⟨c1, c2, c3, c4, -⟩ := S1)
      | (go_at_call 11; refine (hc _).mono ?_; rintro e w3 ⟨rfl, hb⟩; (have S1 := S.step hb); clear S hb c1 c2 c3 c4; have S := S1; obtain ⟨c1, c2, c3, c4, -⟩ := S1)
      | (go_at_call 14; (with_reducible refine (hx _).mono ?_); rintro e w4 ⟨rfl, hb⟩; (have S1 := S.step hb); clear S hb c1 c2 c3 c4; have S := S1; obtain ⟨c1, c2, c3, c4, -⟩ := S1)
      | (go_at_call 14; (with_reducible refine (hy _).mono ?_); rintro e w5 ⟨rfl, hb⟩; (have S1 := S.step hb); clear S hb c1 c2 c3 c4; have S := S1; obtain ⟨c1, c2, c3, c4, -⟩ := S1)
      | (go_at_call 12; refine (num_any _ _).mono ?_; rintro e w' ⟨rfl, rfl⟩))
    go_ret
    exact ⟨rfl, S.below⟩

theorem walk (ax ay bx bY : Int) (h1 : In64 ax) (h2 : In64 ay) (h3 : In64 bx) (h4 : In64 bY) (w : World) : Calls Try.prog 5 #[.agg #[.int .i64 ax, .int .i64 ay], .agg #[.int .i64 bx, .int .i64 bY]] w (Ends w (.bool true)) := by
  have hx := fun w => finite_ref ax ay w h1.1 h1.2 h2.1 h2.2
  have hy := fun w => finite_ref bx bY w h3.1 h3.2 h4.1 h4.2
  rcases bothF_or ax ay bx bY with ⟨hb, ⟨f1, f2⟩, f3, f4⟩ | ⟨hb, hn⟩
  · have hs := fun w => same_yes ax ay bx bY w hb
    have hc := fun w => cmp_yes ax ay bx bY w hb
    rw [same_eq ax ay bx bY h1 h2 h3 h4 f1 f2 f3 f4] at hs
    rw [ordW_eq ax ay bx bY h1 h2 h3 h4 f1 f2 f3 f4] at hc
    rw [f1, f2] at hx
    rw [f3, f4] at hy
    exact yes_core ax ay bx bY (ordI ax ay bx bY) w hs hc hx hy (fun w => refcmp_any ax ay bx bY w h1 h2 h3 h4)
  · exact no_core ax ay bx bY _ _ (by clear hx hy; cases e1 : fin ax <;> cases e2 : fin ay <;> cases e3 : fin bx <;> cases e4 : fin bY <;> simp_all) w (fun w => same_no ax ay bx bY w hb) (fun w => cmp_no ax ay bx bY w hb) hx hy

set_option maxRecDepth 100000 in
theorem lifted (os : Os) (started : os.Started) (H : Type) (enc : TypeId × Value → H) :
    ReturnsInHanded {} Try.checked os 5 .any (Rows.pointOrdersSpec.pre6 enc Try.prog Try.f5 Rows.pointOrdersRow.domain false) (Rows.pointOrdersSpec.post enc Try.prog Try.f5 false true false false) := by
  refine returnsInHanded_of_change (C := Try.checked) own started (by kernel_rfl) Try.func5
    (ChangeSpec.witness6 (enc := enc) (C := Try.checked) false ⟨#[], #[.agg #[.int .i64 0, .int .i64 0], .agg #[.int .i64 0, .int .i64 0]], []⟩ 8 (by kernel_rfl) (by kernel_rfl) (by kernel_rfl) (by kernel_rfl)) ?_
  intro W base args ds gs before hval0 hW _ _
  have hval : ∀ (j : Nat) t v, Try.f5.params[j]? = some t → args[j]? = some v → Value.okWide Try.prog W .any base t v := hval0
  have hW' := hW
  obtain ⟨p, q, hA0, hV, rfl, _, _⟩ := hW
  have hA : DataW.TrodAll enc Try.prog W 0 (fun _ => true) true Try.f5.params.toList args.toList ds p := hA0
  rw [Try.params5] at hA hval
  obtain ⟨v0, v1, d0, d1, p0, p1, rfl, rfl, rfl, h0, h1⟩ := trodAll_two hA
  obtain ⟨rfl, rfl⟩ := trodVars_none hV
  obtain ⟨c0, c1, y0, y1, m, rfl, rfl, rfl, hy0, hy1⟩ := open_agg2 Try.underlying25 (by kernel_rfl) cells25 (hval 0 25 v0 rfl rfl) h0
  obtain ⟨c2, c3, y2, y3, m2, rfl, rfl, rfl, hy2, hy3⟩ := open_agg2 Try.underlying25 (by kernel_rfl) cells25 (hval 1 25 v1 rfl rfl) h1
  obtain ⟨a, e0, rfl, wa⟩ := DataW.trod_int Try.underlying3 hy0
  obtain ⟨b, e1, rfl, wb⟩ := DataW.trod_int Try.underlying3 hy1
  obtain ⟨c, e2, rfl, wc⟩ := DataW.trod_int Try.underlying3 hy2
  obtain ⟨d, e3, rfl, wd⟩ := DataW.trod_int Try.underlying3 hy3
  simp at e0 e1 e2 e3
  subst e0 e1 e2 e3
  clear hA0 hval0
  have reads : ∀ (a b : Int) (_ : (Lit.int .i64 a).wf = true) (_ : (Lit.int .i64 b).wf = true) (W' : World) (sp : Nat → Bool), DataW.Trod enc Try.prog W' 0 sp true 25 (.agg #[.int .i64 a, .int .i64 b]) (.agg [.lit (.int .i64 a), .lit (.int .i64 b)]) [] := fun a b wa wb W' sp =>
    shut_agg2 (y0 := (.lit (.int .i64 a), [])) (y1 := (.lit (.int .i64 b), [])) Try.underlying25 (by kernel_rfl) cells25 ⟨1, by simp [DataW.trod, Try.underlying3, wa]⟩ ⟨1, by simp [DataW.trod, Try.underlying3, wb]⟩
  refine (walk a b c d (bounds wa) (bounds wb) (bounds wc) (bounds wd) W).mono fun e W' ⟨he, hg⟩ => ?_
  subst he
  exact ⟨_, rfl, _, _, _, [], _, [], hW', trodAll_mk1 (shut_bool Try.underlying4 _), trodAll_mk2 (reads a b wa wb W' _) (reads c d wc wd W' _), rfl, hg.frame _, fun h => by cases h⟩

theorem proved : Rows.PointOrdersSaid :=
  OpenClaim.holds_of_wide 5 Try.f5 rfl rfl rfl rfl rfl rfl rfl ⟨rfl, rfl, rfl, rfl, rfl⟩ rfl rfl rfl rfl rfl (by kernel_rfl) Try.func5 (by kernel_rfl)
    (of_decide_eq_true (by kernel_rfl)) (by unfold Func.isWrapper; first | (rw [if_pos (by decide +kernel)]; kernel_rfl) | (rw [if_neg (by decide +kernel)]; exact ⟨rfl, rfl⟩))
    (fun os started H enc _ => lifted os started H enc)
#print axioms proved
end Go.Proofs.Ytbmgjbpcijbocaa.pointOrders
