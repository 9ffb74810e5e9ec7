/- span: Neg, Add, Sub, by what they contain · span: Sub · round.Mul, down and up: the walks · round.Mul, down and up; span.times. -/
import Derived.Test.YtllapbkoildfiaaGreatFmtM41
import Derived.Deep.RegionHeld3
set_option linter.all false
set_option exponentiation.threshold 100000
namespace Go.Proofs.YtllapbkoildfiaaGreatFmt
section
open Go.RowKit
theorem sNeg_any {lo hi : Nat} {U : Int} {J : Nat} (h : Enc lo hi U J) (w : World) : Calls Tryz.prog 54 #[spv (iw lo) (iw hi)] w (SpR w (-U) J) :=
  (sNeg_gen (iw lo) (iw hi) (iw (opp hi)) (iw (opp lo)) (iw (cn (opp hi))) (iw (cn (opp lo))) w (fun W => sValid_any h W) (fun w => Neg_word hi w h.hi.1) (fun w => Neg_word lo w h.lo.1)
    (fun W => told_gen (iw (opp hi)) (iw (opp lo)) (iw (cn (opp hi))) (iw (cn (opp lo))) W (fun w => Canon_any _ w h.hi.1.opp) (fun w => Canon_any _ w h.lo.1.opp))).mono fun _ _ ⟨h1, h2⟩ => ⟨_, _, h1, h.opp.cn, h2⟩
set_option maxRecDepth 100000 in
set_option maxHeartbeats 1000000 in
theorem sAdd_gen (X Y X2 Y2 : Int) (U : Int) (J : Nat) (w : World) (hV : ∀ W, Calls Tryz.prog 79 #[spv X Y] W fun e w' => e = .returned (.bool true) ∧ Turn (fun _ => False) W w') (hV2 : ∀ W, Calls Tryz.prog 79 #[spv X2 Y2] W fun e w' => e = .returned (.bool true) ∧ Turn (fun _ => False) W w')
    (hA : ∀ W, Turn (fun _ => False) w W → Calls Tryz.prog 80 #[.int .i64 X, .int .i64 X2, .int .i64 1] W fun e W' => ∃ r, e = .returned (.tuple #[.int .i64 r, .int .i64 0]) ∧ Turn (fun _ => False) W W' ∧
      ∀ W1, Turn (fun _ => False) w W1 → Calls Tryz.prog 80 #[.int .i64 Y, .int .i64 Y2, .int .i64 2] W1 fun e W' => ∃ s, e = .returned (.tuple #[.int .i64 s, .int .i64 0]) ∧ Turn (fun _ => False) W1 W' ∧ ∀ W2, Calls Tryz.prog 58 #[.int .i64 r, .int .i64 s] W2 (SpR W2 U J)) :
    Calls Tryz.prog 55 #[spv X Y, spv X2 Y2] w (SpR w U J) := by
  have b1 := SB.made w X Y
  have t1 := (Turn.refl (fun _ => False) w).alloc (.cells #[.int .i64 X, .int .i64 Y] 47)
  have s1 := size_alloc w (.cells #[.int .i64 X, .int .i64 Y] 47)
  generalize hw1 : w.alloc (.cells #[.int .i64 X, .int .i64 Y] 47) = w1 at b1 t1 s1
  have c1 := SB.made w1 X2 Y2
  have t2 := (Turn.refl (fun _ => False) w1).alloc (.cells #[.int .i64 X2, .int .i64 Y2] 47)
  have s2 := size_alloc w1 (.cells #[.int .i64 X2, .int .i64 Y2] 47)
  generalize hw2 : w1.alloc (.cells #[.int .i64 X2, .int .i64 Y2] 47) = w2 at c1 t2 s2
  have r1 := SB.made w2 0 0
  have t3 := (Turn.refl (fun _ => False) w2).alloc (.cells #[.int .i64 0, .int .i64 0] 47)
  have s3 := size_alloc w2 (.cells #[.int .i64 0, .int .i64 0] 47)
  generalize hw3 : w2.alloc (.cells #[.int .i64 0, .int .i64 0] 47) = w3 at r1 t3 s3
  have t4 := (Turn.refl (fun _ => False) w3).alloc (.cells #[.int .i64 X, .int .i64 Y, .int .i64 X2, .int .i64 Y2] 47)
  have hVV := svalid_any w3.heap.size 2 2 _ (by omega) (spl_two w3 X Y X2 Y2 hV hV2)
  rw [s1] at c1 s2
  rw [s2] at r1 s3
  rw [s3] at hVV
  have k1 := ((b1.still t2).still t3).still t4
  have k2 := (c1.still t3).still t4
  have k3 := r1.still t4
  have tt := ((t1.trans' t2).trans' t3).trans' t4
  have e0 := ((b1.still t2).still t3).c0
  have e1 := ((b1.still t2).still t3).c1
  have e2 := (c1.still t3).c0
  have e3 := (c1.still t3).c1
  rw [← hw3, ← hw2, ← hw1] at hVV k1 k2 k3 tt e0 e1 e2 e3
  replace k1 := Lib.hid k1
  replace k2 := Lib.hid k2
  replace k3 := Lib.hid k3
  replace tt := Lib.hid tt
  replace hA := Lib.hid hA
  clear b1 t1 s1 c1 r1 t2 s2 t3 s3 t4 hw1 hw2 hw3 hV hV2
  go_enter Tryz.func55, Tryz.ntmps55
  go_wp2_with (first
    | (go_at_call 53; ((with_reducible refine hVV.mono ?_)); rintro en wa ⟨rfl, h⟩
       have k1 := k1.out.still h
       have k2 := k2.out.still h
       have k3 := k3.out.still h
       have tt := tt.out.trans' h
       have hA1 := hA.out wa tt
       have e0 := k1.c0
       have e1 := k1.c1
       have e2 := k2.c0
       have e3 := k2.c1
       replace k1 := Lib.hid k1
       replace k2 := Lib.hid k2
       replace k3 := Lib.hid k3
       replace tt := Lib.hid tt
       clear h hA)
    | (go_at_call 80; ((with_reducible refine hA1.mono ?_)); rintro en wb ⟨r, rfl, h, hB⟩
       have k1 := k1.out.still h
       have k2 := k2.out.still h
       have k3 := k3.out.still h
       have tt := tt.out.trans' h
       have hB1 := hB wb tt
       have e0 := k1.c0
       have e1 := k1.c1
       have e2 := k2.c0
       have e3 := k2.c1
       replace k1 := Lib.hid k1
       replace k2 := Lib.hid k2
       replace k3 := Lib.hid k3
       replace tt := Lib.hid tt
       clear h hB hA1)
    | (go_at_call 80; ((with_reducible refine hB1.mono ?_)); rintro en wc ⟨s, rfl, h, hT⟩
       have k3 := k3.out.still h
       have tt := tt.out.trans' h
       have hT1 := hT wc
       replace k3 := Lib.hid k3
       replace tt := Lib.hid tt
       clear h hT hB1)
    | (go_at_call 58; ((with_reducible refine hT1.mono ?_)); rintro en wd' ⟨lo, hi, rfl, hE, h⟩
       have k3 := k3.out.still h
       have tt := tt.out.trans' h
       have f0 := k3.c0
       have f1 := k3.c1
       have f2 := k3.fz 0
       have f3 := k3.fz 1
       obtain ⟨P, hP⟩ : ∃ P, P = iw lo := ⟨_, rfl⟩
       obtain ⟨Q, hQ⟩ : ∃ Q, Q = iw hi := ⟨_, rfl⟩
       rw [← hP, ← hQ]
       obtain ⟨⟨q0, q1⟩, hp⟩ := k3.put P Q
       have hfin := Lib.hid (show SpR w U J (.returned (.tuple #[spv P Q, .int .i64 0])) _ from ⟨lo, hi, by rw [hP, hQ], hE, tt.trans hp fun k hk e => by (have : k = w.heap.size + 1 + 1 := e; omega)⟩)
       clear h k3 tt hp hE hP hQ))
  refine bodyPost_ret (v := .tuple #[spv P Q, .int .i64 0]) (by simp [results, Tryz.results55, go_sem, q0, q1]) rfl ?_
  exact hfin.out
theorem sAdd_any {lo hi lo2 hi2 : Nat} {U V : Int} {J : Nat} (h : Enc lo hi U J) (k : Enc lo2 hi2 V J) (w : World) (hT : Tab w) : Calls Tryz.prog 55 #[spv (iw lo) (iw hi), spv (iw lo2) (iw hi2)] w (SpR w (U + V) J) := by
  refine sAdd_gen (iw lo) (iw hi) (iw lo2) (iw hi2) (U + V) J w (fun W => sValid_any h W) (fun W => sValid_any k W) fun W t => ?_
  obtain ⟨r, r1, r2, r3⟩ := rAdd_down lo lo2 W h.lo.1 k.lo.1 (h.lo.2.imp id fun g => g.1) (k.lo.2.imp id fun g => g.1) (hT.still t)
  refine r3.mono fun en W' g => ⟨iw r, g.1, g.2, fun W1 t1 => ?_⟩
  obtain ⟨s, s1, s2, s3⟩ := rAdd_up hi hi2 W1 h.hi.1 k.hi.1 (h.hi.2.imp id fun g => g.1) (k.hi.2.imp id fun g => g.1) (hT.still t1)
  exact s3.mono fun en W' g => ⟨iw s, g.1, g.2, fun W2 => stold_any ⟨h.lo.add k.lo r1 r2, h.hi.add k.hi s1 s2⟩ W2⟩
end
section
open Go.RowKit
set_option maxRecDepth 100000 in
set_option maxHeartbeats 1000000 in
theorem sSub_gen (X Y X2 Y2 : Int) (U : Int) (J : Nat) (w : World) (hV : ∀ W, Calls Tryz.prog 79 #[spv X Y] W fun e w' => e = .returned (.bool true) ∧ Turn (fun _ => False) W w') (hV2 : ∀ W, Calls Tryz.prog 79 #[spv X2 Y2] W fun e w' => e = .returned (.bool true) ∧ Turn (fun _ => False) W w')
    (hA : ∀ W, Turn (fun _ => False) w W → Calls Tryz.prog 54 #[spv X2 Y2] W fun e W' => ∃ A B, e = .returned (.tuple #[spv A B, .int .i64 0]) ∧ Turn (fun _ => False) W W' ∧ ∀ W1, Turn (fun _ => False) w W1 → Calls Tryz.prog 55 #[spv X Y, spv A B] W1 (SpR W1 U J)) :
    Calls Tryz.prog 36 #[spv X Y, spv X2 Y2] w (SpR w U J) := by
  have b1 := SB.made w X Y
  have t1 := (Turn.refl (fun _ => False) w).alloc (.cells #[.int .i64 X, .int .i64 Y] 47)
  have s1 := size_alloc w (.cells #[.int .i64 X, .int .i64 Y] 47)
  generalize hw1 : w.alloc (.cells #[.int .i64 X, .int .i64 Y] 47) = w1 at b1 t1 s1
  have c1 := SB.made w1 X2 Y2
  have t2 := (Turn.refl (fun _ => False) w1).alloc (.cells #[.int .i64 X2, .int .i64 Y2] 47)
  have s2 := size_alloc w1 (.cells #[.int .i64 X2, .int .i64 Y2] 47)
  generalize hw2 : w1.alloc (.cells #[.int .i64 X2, .int .i64 Y2] 47) = w2 at c1 t2 s2
  have r1 := SB.made w2 0 0
  have t3 := (Turn.refl (fun _ => False) w2).alloc (.cells #[.int .i64 0, .int .i64 0] 47)
  have s3 := size_alloc w2 (.cells #[.int .i64 0, .int .i64 0] 47)
  generalize hw3 : w2.alloc (.cells #[.int .i64 0, .int .i64 0] 47) = w3 at r1 t3 s3
  have t4 := (Turn.refl (fun _ => False) w3).alloc (.cells #[.int .i64 X, .int .i64 Y, .int .i64 X2, .int .i64 Y2] 47)
  have hVV := svalid_any w3.heap.size 2 2 _ (by omega) (spl_two w3 X Y X2 Y2 hV hV2)
  rw [s1] at c1 s2
  rw [s2] at r1 s3
  rw [s3] at hVV
  have k1 := ((b1.still t2).still t3).still t4
  have k2 := (c1.still t3).still t4
  have k3 := r1.still t4
  have tt := ((t1.trans' t2).trans' t3).trans' t4
  have e0 := ((b1.still t2).still t3).c0
  have e1 := ((b1.still t2).still t3).c1
  have e2 := (c1.still t3).c0
  have e3 := (c1.still t3).c1
  rw [← hw3, ← hw2, ← hw1] at hVV k1 k2 k3 tt e0 e1 e2 e3
  replace k1 := Lib.hid k1
  replace k2 := Lib.hid k2
  replace k3 := Lib.hid k3
  replace tt := Lib.hid tt
  replace hA := Lib.hid hA
  clear b1 t1 s1 c1 r1 t2 s2 t3 s3 t4 hw1 hw2 hw3 hV hV2
  go_enter Tryz.func36, Tryz.ntmps36
  go_wp2_with (first
    | (go_at_call 53; ((with_reducible refine hVV.mono ?_)); rintro en wa ⟨rfl, h⟩
       have k1 := k1.out.still h
       have k2 := k2.out.still h
       have k3 := k3.out.still h
       have tt := tt.out.trans' h
       have hA1 := hA.out wa tt
       have e0 := k1.c0
       have e1 := k1.c1
       have e2 := k2.c0
       have e3 := k2.c1
       replace k1 := Lib.hid k1
       replace k2 := Lib.hid k2
       replace k3 := Lib.hid k3
       replace tt := Lib.hid tt
       clear h hA)
    | (go_at_call 54; ((with_reducible refine hA1.mono ?_)); rintro en wb ⟨A, B, rfl, h, hB⟩
       have t5 := h.trans' ((Turn.refl (fun _ => False) wb).alloc (.cells #[.int .i64 A, .int .i64 B] 47))
       have k1 := k1.out.still t5
       have k3 := k3.out.still t5
       have tt := tt.out.trans' t5
       have hB1 := hB _ tt
       have e0 := k1.c0
       have e1 := k1.c1
       replace k1 := Lib.hid k1
       replace k3 := Lib.hid k3
       replace tt := Lib.hid tt
       clear h hB hA1 t5)
    | (go_at_call 55; ((with_reducible refine hB1.mono ?_)); rintro en wd' ⟨lo, hi, rfl, hE, h⟩
       have k3 := k3.out.still h
       have tt := tt.out.trans' h
       have f0 := k3.c0
       have f1 := k3.c1
       have f2 := k3.fz 0
       have f3 := k3.fz 1
       obtain ⟨P, hP⟩ : ∃ P, P = iw lo := ⟨_, rfl⟩
       obtain ⟨Q, hQ⟩ : ∃ Q, Q = iw hi := ⟨_, rfl⟩
       rw [← hP, ← hQ]
       obtain ⟨⟨q0, q1⟩, hp⟩ := k3.put P Q
       have hfin := Lib.hid (show SpR w U J (.returned (.tuple #[spv P Q, .int .i64 0])) _ from ⟨lo, hi, by rw [hP, hQ], hE, tt.trans hp fun k hk e => by (have : k = w.heap.size + 1 + 1 := e; omega)⟩)
       clear h k3 tt hp hE hP hQ))
  refine bodyPost_ret (v := .tuple #[spv P Q, .int .i64 0]) (by simp [results, Tryz.results36, go_sem, q0, q1]) rfl ?_
  exact hfin.out
theorem sSub_any {lo hi lo2 hi2 : Nat} {U V : Int} {J : Nat} (h : Enc lo hi U J) (k : Enc lo2 hi2 V J) (w : World) (hT : Tab w) : Calls Tryz.prog 36 #[spv (iw lo) (iw hi), spv (iw lo2) (iw hi2)] w (SpR w (U - V) J) := by
  refine sSub_gen (iw lo) (iw hi) (iw lo2) (iw hi2) (U - V) J w (fun W => sValid_any h W) (fun W => sValid_any k W) fun W t => ?_
  refine (sNeg_any k W).mono fun en W' ⟨l, r, g1, g2, g3⟩ => ⟨iw l, iw r, g1, g3, fun W1 t1 => ?_⟩
  have := sAdd_any h g2 W1 (hT.still t1)
  rwa [← Int.sub_eq_add_neg] at this
end
section
open Go.RowKit
structure MulK (x y nat : Nat) (X Y N : Int) : Prop where
  fx : ∀ w, Calls Tryz.prog 61 #[.int .i64 X] w fun e w' => e = .returned (.float .f64 x) ∧ w = w'
  fy : ∀ w, Calls Tryz.prog 61 #[.int .i64 Y] w fun e w' => e = .returned (.float .f64 y) ∧ w = w'
  b : ∀ w, (binOp .mul 57 (.float .f64 x) (.float .f64 y)).run Tryz.prog w = .ok (.float .f64 nat) w
  o : ∀ w, Calls Tryz.prog 59 #[.float .f64 nat] w fun e w' => e = .returned (.int .i64 N) ∧ w = w'
  f : ∀ w b, w.cell? ⟨b, 0, none⟩ = some (.int .i64 X) → w.cell? ⟨b, 1, none⟩ = some (.int .i64 Y) → Calls Tryz.prog 116 #[.slice (some ⟨b, 0, none⟩) 2 2] w (FnR w 2 fun i => if i = 0 then x else y)
theorem MulK.of {x y nat : Nat} (hx : NN x) (hy : NN y) (hn : floatBits .mul .f64 x y = some nat) (hnn : NN nat) : MulK x y nat (iw x) (iw y) (iw nat) :=
  ⟨fun w => Float_any x w hx.1, fun w => Float_any y w hy.1, fun w => run_float_arith (P := Tryz.prog) w .mul 57 .f64 x y nat hn, fun w => bOf_any nat w hnn,
    fun w b h0 h1 => rfinite_any b 2 2 _ w (by omega) fun i hi => by
      rcases (by omega : i = 0 ∨ i = 1) with rfl | rfl
      · exact ⟨h0, hx.1⟩
      · exact ⟨h1, hy.1⟩⟩
set_option maxRecDepth 100000 in
set_option maxHeartbeats 2000000 in
theorem mul_1f (x y nat : Nat) (X Y N : Int) (b : Int) (w : World) (hK : MulK x y nat X Y N) (hf : Fin64 x ∧ Fin64 y)
    (hS : ∀ W, EB w W X Y → Calls Tryz.prog 117 #[.int .i64 1, .int .i64 N, .bool true, .func (.func 121) #[] #[.pointer (some ⟨w.heap.size, 0, none⟩), .pointer (some ⟨w.heap.size + 1, 0, none⟩)]] W (OpR W b)) :
    Calls Tryz.prog 81 #[.int .i64 X, .int .i64 Y, .int .i64 1] w (OpR w b) := by
  obtain ⟨F, hs⟩ := EB.made w X Y
  obtain ⟨hFx, hFy, hB, hO, hFn⟩ := hK
  replace hS := Lib.hid hS
  replace hf := Lib.hid hf
  go_enter Tryz.func81, Tryz.ntmps81
  go_wp2_with fail
  generalize World.alloc (World.alloc w _) _ = w2 at *
  have F2 := F.still ((Turn.refl (fun _ => False) w2).drew)
  have F3 := F.still (((Turn.refl (fun _ => False) w2).alloc (.cells #[.int .i64 X, .int .i64 Y] 3)).drew)
  have hFF := hFn (w2.alloc (.cells #[.int .i64 X, .int .i64 Y] 3)).drew w2.heap.size (cell_made #[.int .i64 X, .int .i64 Y] 3 w2 0) (cell_made #[.int .i64 X, .int .i64 Y] 3 w2 1)
  have a0 := F2.a
  have b0 := F2.b
  have a1 := F3.a
  have b1 := F3.b
  have hSS := hS.out _ F3
  have hT := Lib.hid F3.turn
  have hsz := F3.sz
  clear F F2 hFn hs
  replace F3 := Lib.hid F3
  go_region_held3 (fun wx => wx.cell? ⟨w.heap.size, 0, none⟩ = some (.int .i64 X) ∧ wx.cell? ⟨w.heap.size + 1, 0, none⟩ = some (.int .i64 Y))
    (refine ⟨?_, ?_⟩ <;> with_reducible assumption)
    (first
      | (go_at_call 61; ((with_reducible refine (hFx _).mono ?_)); rintro en wa ⟨rfl, rfl⟩)
      | (go_at_call 61; ((with_reducible refine (hFy _).mono ?_)); rintro en wa ⟨rfl, rfl⟩)
      | (go_at_call 59; ((with_reducible refine (hO _).mono ?_)); rintro en wa ⟨rfl, rfl⟩)
      | (go_at_call 116; ((with_reducible refine hFF.mono ?_)); rintro en wa ⟨⟨v, rfl, hv⟩, rfl⟩
         obtain rfl : v = true := vtrue hv hf.out
         clear hv)
      | (go_at_call 117; ((with_reducible refine hSS.mono ?_)); rintro en wa ⟨rfl, ht⟩
         have F4 := F3.out.still ht
         have a2 := F4.a
         have b2 := F4.b
         have hT4 := Lib.hid F4.turn
         clear F4))
  all_goals go_wp2_with fail
  all_goals (go_ret2; exact ⟨rfl, hT4.out⟩)
set_option maxRecDepth 100000 in
set_option maxHeartbeats 2000000 in
theorem mul_1i (x y nat : Nat) (X Y N : Int) (b : Int) (w : World) (hK : MulK x y nat X Y N) (hf : ¬ (Fin64 x ∧ Fin64 y))
    (hS : ∀ W, EB w W X Y → Calls Tryz.prog 117 #[.int .i64 1, .int .i64 N, .bool false, .func (.func 121) #[] #[.pointer (some ⟨w.heap.size, 0, none⟩), .pointer (some ⟨w.heap.size + 1, 0, none⟩)]] W (OpR W b)) :
    Calls Tryz.prog 81 #[.int .i64 X, .int .i64 Y, .int .i64 1] w (OpR w b) := by
  obtain ⟨F, hs⟩ := EB.made w X Y
  obtain ⟨hFx, hFy, hB, hO, hFn⟩ := hK
  replace hS := Lib.hid hS
  replace hf := Lib.hid hf
  go_enter Tryz.func81, Tryz.ntmps81
  go_wp2_with fail
  generalize World.alloc (World.alloc w _) _ = w2 at *
  have F2 := F.still ((Turn.refl (fun _ => False) w2).drew)
  have F3 := F.still (((Turn.refl (fun _ => False) w2).alloc (.cells #[.int .i64 X, .int .i64 Y] 3)).drew)
  have hFF := hFn (w2.alloc (.cells #[.int .i64 X, .int .i64 Y] 3)).drew w2.heap.size (cell_made #[.int .i64 X, .int .i64 Y] 3 w2 0) (cell_made #[.int .i64 X, .int .i64 Y] 3 w2 1)
  have a0 := F2.a
  have b0 := F2.b
  have a1 := F3.a
  have b1 := F3.b
  have hSS := hS.out _ F3
  have hT := Lib.hid F3.turn
  have hsz := F3.sz
  clear F F2 hFn hs
  replace F3 := Lib.hid F3
  go_region_held3 (fun wx => wx.cell? ⟨w.heap.size, 0, none⟩ = some (.int .i64 X) ∧ wx.cell? ⟨w.heap.size + 1, 0, none⟩ = some (.int .i64 Y))
    (refine ⟨?_, ?_⟩ <;> with_reducible assumption)
    (first
      | (go_at_call 61; ((with_reducible refine (hFx _).mono ?_)); rintro en wa ⟨rfl, rfl⟩)
      | (go_at_call 61; ((with_reducible refine (hFy _).mono ?_)); rintro en wa ⟨rfl, rfl⟩)
      | (go_at_call 59; ((with_reducible refine (hO _).mono ?_)); rintro en wa ⟨rfl, rfl⟩)
      | (go_at_call 116; ((with_reducible refine hFF.mono ?_)); rintro en wa ⟨⟨v, rfl, hv⟩, rfl⟩
         obtain rfl : v = false := vfalse hv hf.out
         clear hv)
      | (go_at_call 117; ((with_reducible refine hSS.mono ?_)); rintro en wa ⟨rfl, ht⟩
         have F4 := F3.out.still ht
         have a2 := F4.a
         have b2 := F4.b
         have hT4 := Lib.hid F4.turn
         clear F4))
  all_goals go_wp2_with fail
  all_goals (go_ret2; exact ⟨rfl, hT4.out⟩)
set_option maxRecDepth 100000 in
set_option maxHeartbeats 2000000 in
theorem mul_2f (x y nat : Nat) (X Y N : Int) (b : Int) (w : World) (hK : MulK x y nat X Y N) (hf : Fin64 x ∧ Fin64 y)
    (hS : ∀ W, EB w W X Y → Calls Tryz.prog 117 #[.int .i64 2, .int .i64 N, .bool true, .func (.func 121) #[] #[.pointer (some ⟨w.heap.size, 0, none⟩), .pointer (some ⟨w.heap.size + 1, 0, none⟩)]] W (OpR W b)) :
    Calls Tryz.prog 81 #[.int .i64 X, .int .i64 Y, .int .i64 2] w (OpR w b) := by
  obtain ⟨F, hs⟩ := EB.made w X Y
  obtain ⟨hFx, hFy, hB, hO, hFn⟩ := hK
  replace hS := Lib.hid hS
  replace hf := Lib.hid hf
  go_enter Tryz.func81, Tryz.ntmps81
  go_wp2_with fail
  generalize World.alloc (World.alloc w _) _ = w2 at *
  have F2 := F.still ((Turn.refl (fun _ => False) w2).drew)
  have F3 := F.still (((Turn.refl (fun _ => False) w2).alloc (.cells #[.int .i64 X, .int .i64 Y] 3)).drew)
  have hFF := hFn (w2.alloc (.cells #[.int .i64 X, .int .i64 Y] 3)).drew w2.heap.size (cell_made #[.int .i64 X, .int .i64 Y] 3 w2 0) (cell_made #[.int .i64 X, .int .i64 Y] 3 w2 1)
  have a0 := F2.a
  have b0 := F2.b
  have a1 := F3.a
  have b1 := F3.b
  have hSS := hS.out _ F3
  have hT := Lib.hid F3.turn
  have hsz := F3.sz
  clear F F2 hFn hs
  replace F3 := Lib.hid F3
  go_region_held3 (fun wx => wx.cell? ⟨w.heap.size, 0, none⟩ = some (.int .i64 X) ∧ wx.cell? ⟨w.heap.size + 1, 0, none⟩ = some (.int .i64 Y))
    (refine ⟨?_, ?_⟩ <;> with_reducible assumption)
    (first
      | (go_at_call 61; ((with_reducible refine (hFx _).mono ?_)); rintro en wa ⟨rfl, rfl⟩)
      | (go_at_call 61; ((with_reducible refine (hFy _).mono ?_)); rintro en wa ⟨rfl, rfl⟩)
      | (go_at_call 59; ((with_reducible refine (hO _).mono ?_)); rintro en wa ⟨rfl, rfl⟩)
      | (go_at_call 116; ((with_reducible refine hFF.mono ?_)); rintro en wa ⟨⟨v, rfl, hv⟩, rfl⟩
         obtain rfl : v = true := vtrue hv hf.out
         clear hv)
      | (go_at_call 117; ((with_reducible refine hSS.mono ?_)); rintro en wa ⟨rfl, ht⟩
         have F4 := F3.out.still ht
         have a2 := F4.a
         have b2 := F4.b
         have hT4 := Lib.hid F4.turn
         clear F4))
  all_goals go_wp2_with fail
  all_goals (go_ret2; exact ⟨rfl, hT4.out⟩)
set_option maxRecDepth 100000 in
set_option maxHeartbeats 2000000 in
theorem mul_2i (x y nat : Nat) (X Y N : Int) (b : Int) (w : World) (hK : MulK x y nat X Y N) (hf : ¬ (Fin64 x ∧ Fin64 y))
    (hS : ∀ W, EB w W X Y → Calls Tryz.prog 117 #[.int .i64 2, .int .i64 N, .bool false, .func (.func 121) #[] #[.pointer (some ⟨w.heap.size, 0, none⟩), .pointer (some ⟨w.heap.size + 1, 0, none⟩)]] W (OpR W b)) :
    Calls Tryz.prog 81 #[.int .i64 X, .int .i64 Y, .int .i64 2] w (OpR w b) := by
  obtain ⟨F, hs⟩ := EB.made w X Y
  obtain ⟨hFx, hFy, hB, hO, hFn⟩ := hK
  replace hS := Lib.hid hS
  replace hf := Lib.hid hf
  go_enter Tryz.func81, Tryz.ntmps81
  go_wp2_with fail
  generalize World.alloc (World.alloc w _) _ = w2 at *
  have F2 := F.still ((Turn.refl (fun _ => False) w2).drew)
  have F3 := F.still (((Turn.refl (fun _ => False) w2).alloc (.cells #[.int .i64 X, .int .i64 Y] 3)).drew)
  have hFF := hFn (w2.alloc (.cells #[.int .i64 X, .int .i64 Y] 3)).drew w2.heap.size (cell_made #[.int .i64 X, .int .i64 Y] 3 w2 0) (cell_made #[.int .i64 X, .int .i64 Y] 3 w2 1)
  have a0 := F2.a
  have b0 := F2.b
  have a1 := F3.a
  have b1 := F3.b
  have hSS := hS.out _ F3
  have hT := Lib.hid F3.turn
  have hsz := F3.sz
  clear F F2 hFn hs
  replace F3 := Lib.hid F3
  go_region_held3 (fun wx => wx.cell? ⟨w.heap.size, 0, none⟩ = some (.int .i64 X) ∧ wx.cell? ⟨w.heap.size + 1, 0, none⟩ = some (.int .i64 Y))
    (refine ⟨?_, ?_⟩ <;> with_reducible assumption)
    (first
      | (go_at_call 61; ((with_reducible refine (hFx _).mono ?_)); rintro en wa ⟨rfl, rfl⟩)
      | (go_at_call 61; ((with_reducible refine (hFy _).mono ?_)); rintro en wa ⟨rfl, rfl⟩)
      | (go_at_call 59; ((with_reducible refine (hO _).mono ?_)); rintro en wa ⟨rfl, rfl⟩)
      | (go_at_call 116; ((with_reducible refine hFF.mono ?_)); rintro en wa ⟨⟨v, rfl, hv⟩, rfl⟩
         obtain rfl : v = false := vfalse hv hf.out
         clear hv)
      | (go_at_call 117; ((with_reducible refine hSS.mono ?_)); rintro en wa ⟨rfl, ht⟩
         have F4 := F3.out.still ht
         have a2 := F4.a
         have b2 := F4.b
         have hT4 := Lib.hid F4.turn
         clear F4))
  all_goals go_wp2_with fail
  all_goals (go_ret2; exact ⟨rfl, hT4.out⟩)
end
section
open Go.RowKit
theorem Kar.of {w w' : World} (h : Kar w) (t : Turn (fun _ => False) w w') : Kar w' := h.still t
theorem EB.c121 {w W : World} {x y : Nat} (h : EB w W (iw x) (iw y)) (hx : Fin64 x) (hy : Fin64 y) (hT : Tab w) (hK : Kar w) (h1 : fv x ≠ 0) (h2 : fv y ≠ 0) : ∀ W', Turn (fun _ => False) W W' → Calls Tryz.prog 121 #[.pointer (some ⟨w.heap.size, 0, none⟩), .pointer (some ⟨w.heap.size + 1, 0, none⟩)] W' (NuRes W' 2148 (fv x * fv y)) := fun W' t => by
  have h2' := h.still t
  exact c121_any w.heap.size (w.heap.size + 1) x y W' hx hy h2'.a h2'.b (hT.still h2'.turn) (hK.still h2'.turn) h1 h2
theorem prod_small {x y : Nat} (hx : Fin64 x) (hy : Fin64 y) : (fv x * fv y).natAbs < 2 ^ 4196 := by
  rw [Int.natAbs_mul, show 4196 = 2098 + 2098 from rfl, Nat.pow_add]
  exact Nat.mul_lt_mul'' (fv_lt2 hx) (fv_lt2 hy)
theorem rk_zero_iff {n : Nat} : rk n = 0 ↔ n % 9223372036854775808 = 0 := by
  unfold rk
  split <;> omega
theorem rk_fv0 {n : Nat} : rk n = 0 ↔ fv n = 0 := by rw [rk_zero_iff, fv_zero]
theorem rMul_down (x y : Nat) (w : World) (hx : NN x) (hy : NN y) (h1 : rk x ≠ 0) (h2 : rk y ≠ 0) (hT : Tab w) (hK : Kar w) :
    ∃ r, NN r ∧ (Fin64 x → Fin64 y → Lo r (fv x * fv y) 1074) ∧ (¬ (Fin64 x ∧ Fin64 y) → rk r = if (decide (rk x < 0) != decide (rk y < 0)) then -9218868437227405312 else 9218868437227405312) ∧ Calls Tryz.prog 81 #[.int .i64 (iw x), .int .i64 (iw y), .int .i64 1] w (OpR w (iw r)) := by
  by_cases hf : Fin64 x ∧ Fin64 y
  · obtain ⟨nat, hn, hnn⟩ := mul_fin hf.1 hf.2
    have hM := MulK.of hx hy hn hnn
    have f1 : fv x ≠ 0 := fun h => h1 (rk_fv0.2 h)
    have f2 : fv y ≠ 0 := fun h => h2 (rk_fv0.2 h)
    have hU : fv x * fv y ≠ 0 := Int.mul_ne_zero f1 f2
    have hd := down_ok (fv x * fv y) 1074
    obtain ⟨R, hR⟩ : ∃ R, R = dn (fw (fv x * fv y).natAbs 1074 (decide (fv x * fv y < 0))) (fa (fv x * fv y).natAbs 1074 (decide (fv x * fv y < 0))) (decide (fv x * fv y < 0)) := ⟨_, rfl⟩
    rw [← hR] at hd
    exact ⟨R, hd.1, fun _ _ => hd, fun g => absurd hf g, mul_1f x y nat (iw x) (iw y) (iw nat) (iw R) w hM hf fun W F => settle_121_1_1 (iw nat) _ _ _ W (iw R) R rfl hR (F.c121 hf.1 hf.2 hT hK f1 f2) (prod_small hf.1 hf.2) hU⟩
  · obtain ⟨nat, hn, hnn, hr⟩ := mul_inf hx hy h1 h2 hf
    have hM := MulK.of hx hy hn hnn
    exact ⟨nat, hnn, fun a b => absurd ⟨a, b⟩ hf, fun _ => hr, mul_1i x y nat (iw x) (iw y) (iw nat) (iw nat) w hM hf fun W _ => settle_no_1 (iw nat) _ W⟩
theorem rMul_up (x y : Nat) (w : World) (hx : NN x) (hy : NN y) (h1 : rk x ≠ 0) (h2 : rk y ≠ 0) (hT : Tab w) (hK : Kar w) :
    ∃ r, NN r ∧ (Fin64 x → Fin64 y → Hi r (fv x * fv y) 1074) ∧ (¬ (Fin64 x ∧ Fin64 y) → rk r = if (decide (rk x < 0) != decide (rk y < 0)) then -9218868437227405312 else 9218868437227405312) ∧ Calls Tryz.prog 81 #[.int .i64 (iw x), .int .i64 (iw y), .int .i64 2] w (OpR w (iw r)) := by
  by_cases hf : Fin64 x ∧ Fin64 y
  · obtain ⟨nat, hn, hnn⟩ := mul_fin hf.1 hf.2
    have hM := MulK.of hx hy hn hnn
    have f1 : fv x ≠ 0 := fun h => h1 (rk_fv0.2 h)
    have f2 : fv y ≠ 0 := fun h => h2 (rk_fv0.2 h)
    have hU : fv x * fv y ≠ 0 := Int.mul_ne_zero f1 f2
    have hd := up_ok (fv x * fv y) 1074
    obtain ⟨R, hR⟩ : ∃ R, R = uw (fw (fv x * fv y).natAbs 1074 (decide (fv x * fv y < 0))) (fa (fv x * fv y).natAbs 1074 (decide (fv x * fv y < 0))) (decide (fv x * fv y < 0)) := ⟨_, rfl⟩
    rw [← hR] at hd
    exact ⟨R, hd.1, fun _ _ => hd, fun g => absurd hf g, mul_2f x y nat (iw x) (iw y) (iw nat) (iw R) w hM hf fun W F => settle_121_2_1 (iw nat) _ _ _ W (iw R) R rfl hR (F.c121 hf.1 hf.2 hT hK f1 f2) (prod_small hf.1 hf.2) hU⟩
  · obtain ⟨nat, hn, hnn, hr⟩ := mul_inf hx hy h1 h2 hf
    have hM := MulK.of hx hy hn hnn
    exact ⟨nat, hnn, fun a b => absurd ⟨a, b⟩ hf, fun _ => hr, mul_2i x y nat (iw x) (iw y) (iw nat) (iw nat) w hM hf fun W _ => settle_no_2 (iw nat) _ W⟩
def TmR (w : World) (t : Nat) (en : Ending) (w' : World) : Prop := en = .returned (.float .f64 t) ∧ Turn (fun _ => False) w w'
set_option maxRecDepth 100000 in
theorem times_x0 (X Y i : Int) (w : World) (hX : ∀ w, Calls Tryz.prog 60 #[.int .i64 X] w fun e w' => e = .returned (.int .i64 0) ∧ w = w') : Calls Tryz.prog 57 #[.int .i64 X, .int .i64 Y, .int .i64 i] w (TmR w 0) := by
  go_enter Tryz.func57, Tryz.ntmps57
  go_wp2_with (go_at_call 60; ((with_reducible refine (hX _).mono ?_)); rintro en wa ⟨rfl, rfl⟩)
  go_ret
  exact ⟨rfl, Turn.refl _ _⟩
set_option maxRecDepth 100000 in
theorem times_y0 (X Y i C : Int) (w : World) (hX : ∀ w, Calls Tryz.prog 60 #[.int .i64 X] w fun e w' => e = .returned (.int .i64 C) ∧ w = w') (hC : ¬ C = 0) (hY : ∀ w, Calls Tryz.prog 60 #[.int .i64 Y] w fun e w' => e = .returned (.int .i64 0) ∧ w = w') : Calls Tryz.prog 57 #[.int .i64 X, .int .i64 Y, .int .i64 i] w (TmR w 0) := by
  go_enter Tryz.func57, Tryz.ntmps57
  go_wp2_with (first
    | (go_at_call 60; ((with_reducible refine (hX _).mono ?_)); rintro en wa ⟨rfl, rfl⟩)
    | (go_at_call 60; ((with_reducible refine (hY _).mono ?_)); rintro en wa ⟨rfl, rfl⟩))
  go_ret
  exact ⟨rfl, Turn.refl _ _⟩
set_option maxRecDepth 100000 in
theorem times_nz (X Y i C D R : Int) (r : Nat) (w : World) (hX : ∀ w, Calls Tryz.prog 60 #[.int .i64 X] w fun e w' => e = .returned (.int .i64 C) ∧ w = w') (hC : ¬ C = 0) (hY : ∀ w, Calls Tryz.prog 60 #[.int .i64 Y] w fun e w' => e = .returned (.int .i64 D) ∧ w = w') (hD : ¬ D = 0)
    (hM : Calls Tryz.prog 81 #[.int .i64 X, .int .i64 Y, .int .i64 i] w (OpR w R)) (hF : ∀ w, Calls Tryz.prog 61 #[.int .i64 R] w fun e w' => e = .returned (.float .f64 r) ∧ w = w') : Calls Tryz.prog 57 #[.int .i64 X, .int .i64 Y, .int .i64 i] w (TmR w r) := by
  have hC2 : (C == 0) = false := beq_eq_false_iff_ne.2 hC
  have hD2 : (D == 0) = false := beq_eq_false_iff_ne.2 hD
  go_enter Tryz.func57, Tryz.ntmps57
  go_wp2_with (first
    | (go_at_call 60; ((with_reducible refine (hX _).mono ?_)); rintro en wa ⟨rfl, rfl⟩)
    | (go_at_call 60; ((with_reducible refine (hY _).mono ?_)); rintro en wa ⟨rfl, rfl⟩)
    | (go_at_call 81; ((with_reducible refine hM.mono ?_)); rintro en wa ⟨rfl, ht⟩
       have ht := Lib.hid ht)
    | (go_at_call 61; ((with_reducible refine (hF _).mono ?_)); rintro en wa ⟨rfl, rfl⟩))
  go_ret
  exact ⟨rfl, ht.out⟩
theorem times_zero {x y : Nat} (i : Int) (hx : NN x) (hy : NN y) (h : rk x = 0 ∨ rk y = 0) (w : World) : Calls Tryz.prog 57 #[.int .i64 (iw x), .int .i64 (iw y), .int .i64 i] w (TmR w 0) := by
  by_cases hc : cls x = 0
  · exact times_x0 (iw x) (iw y) i w fun w => by have := Class_any x w hx.1; rwa [hc] at this
  · have hd : cls y = 0 := (cls0 hy).2 (rk_zero_iff.1 (h.resolve_left fun g => hc ((cls0 hx).2 (rk_zero_iff.1 g))))
    exact times_y0 (iw x) (iw y) i (cls x) w (fun w => Class_any x w hx.1) hc fun w => by have := Class_any y w hy.1; rwa [hd] at this
theorem times_down (x y : Nat) (w : World) (hx : NN x) (hy : NN y) (hT : Tab w) (hK : Kar w) : ∃ t, TLo x y t ∧ Calls Tryz.prog 57 #[.int .i64 (iw x), .int .i64 (iw y), .int .i64 1] w (TmR w t) := by
  by_cases h : rk x = 0 ∨ rk y = 0
  · refine ⟨0, ⟨nought_f.1, fun _ => rfl, fun _ _ g1 g2 => absurd h (fun g => g.elim g1 g2), fun _ g => ?_⟩, times_zero 1 hx hy h w⟩
    omega
  · have h1 : rk x ≠ 0 := fun g => h (.inl g)
    have h2 : rk y ≠ 0 := fun g => h (.inr g)
    obtain ⟨r, r1, r2, r3, r4⟩ := rMul_down x y w hx hy h1 h2 hT hK
    refine ⟨r, ⟨r1, fun g => absurd g h, fun a b _ _ => (r2 a b).2, fun g s => ?_⟩, times_nz (iw x) (iw y) 1 (cls x) (cls y) (iw r) r w (fun w => Class_any x w hx.1) (fun g => h1 (rk_zero_iff.2 ((cls0 hx).1 g))) (fun w => Class_any y w hy.1) (fun g => h2 (rk_zero_iff.2 ((cls0 hy).1 g))) r4 (fun w => Float_any r w r1.1)⟩
    rw [r3 g]
    rcases s with ⟨s1, s2⟩ | ⟨s1, s2⟩
    · rw [decide_eq_true s1, decide_eq_false (by omega)]; rfl
    · rw [decide_eq_false (by omega), decide_eq_true s2]; rfl
theorem times_up (x y : Nat) (w : World) (hx : NN x) (hy : NN y) (hT : Tab w) (hK : Kar w) : ∃ t, TUp x y t ∧ Calls Tryz.prog 57 #[.int .i64 (iw x), .int .i64 (iw y), .int .i64 2] w (TmR w t) := by
  by_cases h : rk x = 0 ∨ rk y = 0
  · refine ⟨0, ⟨nought_f.1, fun _ => rfl, fun _ _ g1 g2 => absurd h (fun g => g.elim g1 g2), fun _ g => ?_⟩, times_zero 2 hx hy h w⟩
    omega
  · have h1 : rk x ≠ 0 := fun g => h (.inl g)
    have h2 : rk y ≠ 0 := fun g => h (.inr g)
    obtain ⟨r, r1, r2, r3, r4⟩ := rMul_up x y w hx hy h1 h2 hT hK
    refine ⟨r, ⟨r1, fun g => absurd g h, fun a b _ _ => (r2 a b).2, fun g s => ?_⟩, times_nz (iw x) (iw y) 2 (cls x) (cls y) (iw r) r w (fun w => Class_any x w hx.1) (fun g => h1 (rk_zero_iff.2 ((cls0 hx).1 g))) (fun w => Class_any y w hy.1) (fun g => h2 (rk_zero_iff.2 ((cls0 hy).1 g))) r4 (fun w => Float_any r w r1.1)⟩
    rw [r3 g]
    rcases s with ⟨s1, s2⟩ | ⟨s1, s2⟩
    · rw [decide_eq_true s1, decide_eq_true s2]; rfl
    · rw [decide_eq_false (by omega), decide_eq_false (by omega)]; rfl
end
end Go.Proofs.YtllapbkoildfiaaGreatFmt
