/- round: the ways. -/
import Derived.Test.YtllapbkoildfiaaGreatFmtM20
import Derived.Laws.EntriesVeiled
import Derived.Handy
set_option linter.all false
namespace Go.Proofs.YtllapbkoildfiaaGreatFmt
section
open Go.RowKit
abbrev fnv (n : FuncId) : Value := .func (.func n) #[] #[]
set_option maxRecDepth 100000 in
theorem down_any (n : Nat) (ng above : Bool) (w : World) (h : NN n) : Calls Tryz.prog 167 #[.int .i64 (iw n), .bool ng, .bool above, fnv 110, fnv 111] w fun e w' => e = .returned (.int .i64 (iw (if above then pv n else n))) ∧ w = w' := by
  have hP := Prev_any n w h
  cases above
  · go_enter Tryz.func167, Tryz.ntmps167
    go_wp2
    go_ret
    exact ⟨rfl, rfl⟩
  · go_enter Tryz.func167, Tryz.ntmps167
    go_wp2_with (go_at_call 111; ((with_reducible refine hP.mono ?_)); rintro e w' ⟨rfl, rfl⟩)
    go_ret
    exact ⟨rfl, rfl⟩
set_option maxRecDepth 100000 in
theorem up_any (n : Nat) (ng above : Bool) (w : World) (h : NN n) : Calls Tryz.prog 168 #[.int .i64 (iw n), .bool ng, .bool above, fnv 110, fnv 111] w fun e w' => e = .returned (.int .i64 (iw (if above then n else nx n))) ∧ w = w' := by
  have hP := Next_any n w h
  cases above
  · go_enter Tryz.func168, Tryz.ntmps168
    go_wp2_with (go_at_call 110; ((with_reducible refine hP.mono ?_)); rintro e w' ⟨rfl, rfl⟩)
    go_ret
    exact ⟨rfl, rfl⟩
  · go_enter Tryz.func168, Tryz.ntmps168
    go_wp2
    go_ret
    exact ⟨rfl, rfl⟩
set_option maxRecDepth 100000 in
theorem near_any (n : Nat) (ng above : Bool) (w : World) : Calls Tryz.prog 169 #[.int .i64 (iw n), .bool ng, .bool above, fnv 110, fnv 111] w fun e w' => e = .returned (.int .i64 (iw n)) ∧ w = w' := by
  go_enter Tryz.func169, Tryz.ntmps169
  go_wp2
  go_ret
  exact ⟨rfl, rfl⟩
def wayT (p q : Nat) : Value := .agg #[fnv 169, fnv 167, fnv 168, .func (.func 170) #[] #[.pointer (some ⟨p, 0, none⟩), .pointer (some ⟨q, 0, none⟩)]]
set_option maxRecDepth 100000 in
theorem ways_any (w : World) : Calls Tryz.prog 141 #[] w fun e w' => (∃ p q, e = .returned (wayT p q)) ∧ Turn (fun _ => False) w w' := by
  have s1 := size_alloc w (.cells #[.nilFunc, .nilFunc, .nilFunc, .nilFunc] 184)
  have hres : ∀ X Y Z : Obj, Turn (fun _ => False) w (((w.alloc X).alloc Y).alloc Z) := fun X Y Z => (((Turn.refl (fun _ => False) w).alloc X).alloc Y).alloc Z
  replace hres := Lib.hid hres
  go_enter Tryz.func141, Tryz.ntmps141
  have c1 := cell_made #[.nilFunc] 143 (w.alloc (.cells #[.nilFunc, .nilFunc, .nilFunc, .nilFunc] 184)) 0
  have f1 := frozen_made #[.nilFunc] 143 (w.alloc (.cells #[.nilFunc, .nilFunc, .nilFunc, .nilFunc] 184)) 0
  rw [s1] at c1 f1
  have c1 : ((w.alloc (.cells #[.nilFunc, .nilFunc, .nilFunc, .nilFunc] 184)).alloc (.cells #[.nilFunc] 143)).cell? ⟨w.heap.size + 1, 0, none⟩ = some .nilFunc := c1
  clear s1
  go_wp2_with fail
  go_returns
  exact ⟨⟨_, _, rfl⟩, hres.out _ _ _⟩
def wayF (i : Nat) : FuncId := if i = 0 then 169 else if i = 1 then 167 else 168
set_option maxRecDepth 100000 in
theorem find_any (i : Nat) (hi : i < 3) (w : World) : Calls Tryz.prog 104 #[.int .i64 (i : Nat)] w fun e w' => e = .returned (.tuple #[.agg #[fnv (wayF i)], .bool true]) ∧ Turn (fun _ => False) w w' := by
  have hw := fun w => ways_any w
  have q0 : ∀ (p q : Nat) w, (Instr.index 184 (wayT p q) (.int .i64 0)).run Tryz.prog w = .ok (.agg #[fnv 169]) w := fun _ _ _ => by kernel_rfl
  have q1 : ∀ (p q : Nat) w, (Instr.index 184 (wayT p q) (.int .i64 1)).run Tryz.prog w = .ok (.agg #[fnv 167]) w := fun _ _ _ => by kernel_rfl
  have q2 : ∀ (p q : Nat) w, (Instr.index 184 (wayT p q) (.int .i64 2)).run Tryz.prog w = .ok (.agg #[fnv 168]) w := fun _ _ _ => by kernel_rfl
  have m0 := cell_made #[.nilFunc] 145 w 0
  have m1 := frozen_made #[.nilFunc] 145 w 0
  have hs := size_alloc w (.cells #[.nilFunc] 145)
  have t0 := (Turn.refl (fun _ => False) w).alloc (.cells #[.nilFunc] 145)
  have hl : w.heap.size < (w.alloc (.cells #[.nilFunc] 145)).heap.size := by omega
  replace m0 := Lib.hid m0
  replace m1 := Lib.hid m1
  replace hs := Lib.hid hs
  replace t0 := Lib.hid t0
  rcases (by omega : i = 0 ∨ i = 1 ∨ i = 2) with rfl | rfl | rfl
  · go_enter Tryz.func104, Tryz.ntmps104
    go_wp2_with (first
      | (go_at_call 141; ((with_reducible refine (hw _).mono ?_)); rintro e w' ⟨⟨p, q, rfl⟩, ht⟩
         have c0 := (ht.cell (p := ⟨w.heap.size, 0, none⟩) hl id).trans m0.out
         have c1 := (ht.frozen (p := ⟨w.heap.size, 0, none⟩) hl id).trans m1.out
         have hl2 := Nat.lt_of_lt_of_le hl ht.size
         have t1 := t0.out.trans' ht
         clear hl)
      | (go_at_call 141; ((with_reducible refine (hw _).mono ?_)); rintro e w' ⟨⟨p, q, rfl⟩, ht'⟩
         have c0 := (ht'.cell (p := ⟨w.heap.size, 0, none⟩) hl2 id).trans c0
         have c1 := (ht'.frozen (p := ⟨w.heap.size, 0, none⟩) hl2 id).trans c1
         have t1 := t1.trans' ht'
         clear hl2))
    have hr := World.cell?_setCell_same w' ⟨w.heap.size, 0, none⟩ (fnv 169) c0
    have hT := t1.trans ((Turn.refl (fun k => k = w.heap.size) w').setCell (p := ⟨w.heap.size, 0, none⟩) (fun _ => rfl) (fnv 169)) fun k hk e => by (have : k = w.heap.size := e; omega)
    refine bodyPost_ret (v := .tuple #[.agg #[fnv 169], .bool true]) (by simp [results, Tryz.results104, go_sem, hr]) rfl ?_
    exact ⟨rfl, hT⟩
  · go_enter Tryz.func104, Tryz.ntmps104
    go_wp2_with (first
      | (go_at_call 141; ((with_reducible refine (hw _).mono ?_)); rintro e w' ⟨⟨p, q, rfl⟩, ht⟩
         have c0 := (ht.cell (p := ⟨w.heap.size, 0, none⟩) hl id).trans m0.out
         have c1 := (ht.frozen (p := ⟨w.heap.size, 0, none⟩) hl id).trans m1.out
         have hl2 := Nat.lt_of_lt_of_le hl ht.size
         have t1 := t0.out.trans' ht
         clear hl)
      | (go_at_call 141; ((with_reducible refine (hw _).mono ?_)); rintro e w' ⟨⟨p, q, rfl⟩, ht'⟩
         have c0 := (ht'.cell (p := ⟨w.heap.size, 0, none⟩) hl2 id).trans c0
         have c1 := (ht'.frozen (p := ⟨w.heap.size, 0, none⟩) hl2 id).trans c1
         have t1 := t1.trans' ht'
         clear hl2))
    have hr := World.cell?_setCell_same w' ⟨w.heap.size, 0, none⟩ (fnv 167) c0
    have hT := t1.trans ((Turn.refl (fun k => k = w.heap.size) w').setCell (p := ⟨w.heap.size, 0, none⟩) (fun _ => rfl) (fnv 167)) fun k hk e => by (have : k = w.heap.size := e; omega)
    refine bodyPost_ret (v := .tuple #[.agg #[fnv 167], .bool true]) (by simp [results, Tryz.results104, go_sem, hr]) rfl ?_
    exact ⟨rfl, hT⟩
  · go_enter Tryz.func104, Tryz.ntmps104
    go_wp2_with (first
      | (go_at_call 141; ((with_reducible refine (hw _).mono ?_)); rintro e w' ⟨⟨p, q, rfl⟩, ht⟩
         have c0 := (ht.cell (p := ⟨w.heap.size, 0, none⟩) hl id).trans m0.out
         have c1 := (ht.frozen (p := ⟨w.heap.size, 0, none⟩) hl id).trans m1.out
         have hl2 := Nat.lt_of_lt_of_le hl ht.size
         have t1 := t0.out.trans' ht
         clear hl)
      | (go_at_call 141; ((with_reducible refine (hw _).mono ?_)); rintro e w' ⟨⟨p, q, rfl⟩, ht'⟩
         have c0 := (ht'.cell (p := ⟨w.heap.size, 0, none⟩) hl2 id).trans c0
         have c1 := (ht'.frozen (p := ⟨w.heap.size, 0, none⟩) hl2 id).trans c1
         have t1 := t1.trans' ht'
         clear hl2))
    have hr := World.cell?_setCell_same w' ⟨w.heap.size, 0, none⟩ (fnv 168) c0
    have hT := t1.trans ((Turn.refl (fun k => k = w.heap.size) w').setCell (p := ⟨w.heap.size, 0, none⟩) (fun _ => rfl) (fnv 168)) fun k hk e => by (have : k = w.heap.size := e; omega)
    refine bodyPost_ret (v := .tuple #[.agg #[fnv 168], .bool true]) (by simp [results, Tryz.results104, go_sem, hr]) rfl ?_
    exact ⟨rfl, hT⟩
end
end Go.Proofs.YtllapbkoildfiaaGreatFmt
