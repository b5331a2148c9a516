-- PRINTED BY print.sh 35421559b90ae4d0a3588c463048766b98c2df88dd9212a6774a882060cdf62d: not written by this session
import Derived.Test.YtmgaigbmeenjhaaDoorPparsex0
import Derived.Test.YtmgaigbmeenjhaaDoorPparsex1
import Derived.Test.YtmgaigbmeenjhaaDoorPparsex2
namespace Go.Proofs.YtmgaigbmeenjhaaDoor.Pparse
open Go.RowKit Go.Proofs.YtmgaigbmeenjhaaDoorW.PrintWords Go.Proofs.YtmgaigbmeenjhaaDoorW.PrintLast Go.Proofs.YtmgaigbmeenjhaaDoorW.PrintMore
attribute [local go_sem] max2_int min2_int max_two min_two max_three min_three max_four min_four   -- for this text's walks alone
set_option linter.unusedVariables false
set_option linter.unusedSimpArgs false

/-! ### caravellaw28_parse: function 5 -/
mutual
def caravellaw28_parse.l0 : Nat → List (S31) → List ByteArray → Int → Option ((List (S31)) × Int × Int)
  | 0, _, _, _ => none
  | k + 1, x5, x6, x7 => if x7 < (x6.length : Int) then (if 0 ≤ x7 then ((caravellaw28_cut.f k (rdOf ByteArray.empty x6 x7) 32).bind fun t111 => (caravellaw28_parse.l1 k x5 x6 x7 ([] : List ByteArray) t111 0)) else (none)) else (some (x5, 0, 0))
def caravellaw28_parse.l1 : Nat → List (S31) → List ByteArray → Int → List ByteArray → List ByteArray → Int → Option ((List (S31)) × Int × Int)
  | 0, _, _, _, _, _, _ => none
  | k + 1, x5, x6, x7, x8, x9, x10 => if x10 < (x9.length : Int) then (if 0 ≤ x10 then (if (rdOf ByteArray.empty x9 x10).toList = ([] : List UInt8) then (caravellaw28_parse.l1 k x5 x6 x7 x8 x9 (wrap64 (x10 + 1))) else (if x8.length < 8796093022208 then (caravellaw28_parse.l1 k x5 x6 x7 (x8 ++ [rdOf ByteArray.empty x9 x10]) x9 (wrap64 (x10 + 1))) else (none))) else (none)) else (if (x8.length : Int) = 0 then (caravellaw28_parse.j2 k x5 x6 x7 x8 true) else (if 0 < (x8.length : Int) then (if 0 < ((rdOf ByteArray.empty x8 0).size : Int) then (caravellaw28_parse.j2 k x5 x6 x7 x8 ((bt (rdOf ByteArray.empty x8 0) 0) == 35)) else (none)) else (none)))
def caravellaw28_parse.j2 : Nat → List (S31) → List ByteArray → Int → List ByteArray → Bool → Option ((List (S31)) × Int × Int)
  | 0, _, _, _, _, _ => none
  | k + 1, x5, x6, x7, x8, x57 => if x57 = true then (caravellaw28_parse.l0 k x5 x6 (wrap64 (x7 + 1))) else (if 0 < (x8.length : Int) then ((caravellaw28_shape.f k (rdOf ByteArray.empty x8 0)).bind fun t121 => (if t121.toList = ([63] : List UInt8) then (caravellaw28_parse.j3 k x5 x6 x7 x8 t121 false) else (caravellaw28_parse.j3 k x5 x6 x7 x8 t121 ((t121.size : Int) == (wrap64 ((x8.length : Int) - 1)))))) else (none))
def caravellaw28_parse.j3 : Nat → List (S31) → List ByteArray → Int → List ByteArray → ByteArray → Bool → Option ((List (S31)) × Int × Int)
  | 0, _, _, _, _, _, _ => none
  | k + 1, x5, x6, x7, x8, x11, x12 => caravellaw28_parse.l2 k x5 x6 x7 x8 x11 x12 1
def caravellaw28_parse.l2 : Nat → List (S31) → List ByteArray → Int → List ByteArray → ByteArray → Bool → Int → Option ((List (S31)) × Int × Int)
  | 0, _, _, _, _, _, _, _ => none
  | k + 1, x5, x6, x7, x8, x11, x12, x13 => if x12 = true then (caravellaw28_parse.j5 k x5 x6 x7 x8 x11 x12 x13 (decide (x13 < (x8.length : Int)))) else (caravellaw28_parse.j5 k x5 x6 x7 x8 x11 x12 x13 false)
def caravellaw28_parse.j5 : Nat → List (S31) → List ByteArray → Int → List ByteArray → ByteArray → Bool → Int → Bool → Option ((List (S31)) × Int × Int)
  | 0, _, _, _, _, _, _, _, _ => none
  | k + 1, x5, x6, x7, x8, x11, x12, x13, x78 => if x78 = true then (if 0 ≤ (wrap64 (x13 - 1)) then (if (wrap64 (x13 - 1)) < (x11.size : Int) then (if (bt x11 (wrap64 (x13 - 1))) = 110 then (if 0 ≤ x13 then (if x13 < (x8.length : Int) then ((caravellaw28_digits.f k (rdOf ByteArray.empty x8 x13)).bind fun t123 => (if t123 = true then (caravellaw28_parse.l2 k x5 x6 x7 x8 x11 true (wrap64 (x13 + 1))) else (if (bt x11 (wrap64 (x13 - 1))) = 116 then ((caravellaw28_text.f k (rdOf ByteArray.empty x8 x13)).bind fun t125 => (caravellaw28_parse.l2 k x5 x6 x7 x8 x11 t125 (wrap64 (x13 + 1)))) else (caravellaw28_parse.l2 k x5 x6 x7 x8 x11 false (wrap64 (x13 + 1)))))) else (none)) else (none)) else (if (bt x11 (wrap64 (x13 - 1))) = 116 then (if 0 ≤ x13 then (if x13 < (x8.length : Int) then ((caravellaw28_text.f k (rdOf ByteArray.empty x8 x13)).bind fun t127 => (caravellaw28_parse.l2 k x5 x6 x7 x8 x11 t127 (wrap64 (x13 + 1)))) else (none)) else (none)) else (caravellaw28_parse.l2 k x5 x6 x7 x8 x11 false (wrap64 (x13 + 1))))) else (none)) else (none)) else (if x12 = true then (if x5.length < 4398046511104 then (caravellaw28_parse.l0 k (x5 ++ [(⟨x7, x8⟩ : S31)]) x6 (wrap64 (x7 + 1))) else (none)) else (some (([] : List (S31)), x7, 50)))
end
def caravellaw28_parse.f (k : Nat) (a0 : ByteArray) : Option ((List (S31)) × Int × Int) := if (a0.size : Int) > 1048576 then (some (([] : List (S31)), 0, 3)) else ((caravellaw28_cut.f k a0 10).bind fun t107 => (caravellaw28_parse.l0 k ([] : List (S31)) t107 0))
theorem caravellaw28_parse.mono_l : ∀ k, (∀ y0 y1 y2, LeO (caravellaw28_parse.l0 k y0 y1 y2) (caravellaw28_parse.l0 (k + 1) y0 y1 y2)) ∧ (∀ y0 y1 y2 y3 y4 y5, LeO (caravellaw28_parse.l1 k y0 y1 y2 y3 y4 y5) (caravellaw28_parse.l1 (k + 1) y0 y1 y2 y3 y4 y5)) ∧ (∀ y0 y1 y2 y3 y4, LeO (caravellaw28_parse.j2 k y0 y1 y2 y3 y4) (caravellaw28_parse.j2 (k + 1) y0 y1 y2 y3 y4)) ∧ (∀ y0 y1 y2 y3 y4 y5, LeO (caravellaw28_parse.j3 k y0 y1 y2 y3 y4 y5) (caravellaw28_parse.j3 (k + 1) y0 y1 y2 y3 y4 y5)) ∧ (∀ y0 y1 y2 y3 y4 y5 y6, LeO (caravellaw28_parse.l2 k y0 y1 y2 y3 y4 y5 y6) (caravellaw28_parse.l2 (k + 1) y0 y1 y2 y3 y4 y5 y6)) ∧ (∀ y0 y1 y2 y3 y4 y5 y6 y7, LeO (caravellaw28_parse.j5 k y0 y1 y2 y3 y4 y5 y6 y7) (caravellaw28_parse.j5 (k + 1) y0 y1 y2 y3 y4 y5 y6 y7))
  | 0 => ⟨fun _ _ _ r h => by simp [caravellaw28_parse.l0] at h, fun _ _ _ _ _ _ r h => by simp [caravellaw28_parse.l1] at h, fun _ _ _ _ _ r h => by simp [caravellaw28_parse.j2] at h, fun _ _ _ _ _ _ r h => by simp [caravellaw28_parse.j3] at h, fun _ _ _ _ _ _ _ r h => by simp [caravellaw28_parse.l2] at h, fun _ _ _ _ _ _ _ _ r h => by simp [caravellaw28_parse.j5] at h⟩
  | k + 1 => by
    obtain ⟨ih0, ih1, ih2, ih3, ih4, ih5⟩ := caravellaw28_parse.mono_l k
    refine ⟨?_, ?_, ?_, ?_, ?_, ?_⟩
    · intro y0 y1 y2
      unfold caravellaw28_parse.l0
      repeat' first
      | (with_reducible exact ih0 _ _ _)
      | (with_reducible exact ih1 _ _ _ _ _ _)
      | (with_reducible exact ih2 _ _ _ _ _)
      | (with_reducible exact ih3 _ _ _ _ _ _)
      | (with_reducible exact ih4 _ _ _ _ _ _ _)
      | (with_reducible exact ih5 _ _ _ _ _ _ _ _)
      | (with_reducible exact caravellaw28_cut.mono _ _ _)
      | (with_reducible exact caravellaw28_digits.mono _ _)
      | (with_reducible exact caravellaw28_shape.mono _ _)
      | (with_reducible exact caravellaw28_text.mono _ _)
      | (with_reducible exact LeO.refl _)
      | (with_reducible exact LeO.none _)
      | (with_reducible refine LeO.ite ?_ ?_)
      | (with_reducible refine LeO.bind ?_ (fun _ => ?_))
      | exact ih0 _ _ _
      | exact ih1 _ _ _ _ _ _
      | exact ih2 _ _ _ _ _
      | exact ih3 _ _ _ _ _ _
      | exact ih4 _ _ _ _ _ _ _
      | exact ih5 _ _ _ _ _ _ _ _
      | exact caravellaw28_cut.mono _ _ _
      | exact caravellaw28_digits.mono _ _
      | exact caravellaw28_shape.mono _ _
      | exact caravellaw28_text.mono _ _
      | exact LeO.none _
      | refine LeO.ite ?_ ?_
      | refine LeO.bind ?_ (fun _ => ?_)
    · intro y0 y1 y2 y3 y4 y5
      unfold caravellaw28_parse.l1
      repeat' first
      | (with_reducible exact ih0 _ _ _)
      | (with_reducible exact ih1 _ _ _ _ _ _)
      | (with_reducible exact ih2 _ _ _ _ _)
      | (with_reducible exact ih3 _ _ _ _ _ _)
      | (with_reducible exact ih4 _ _ _ _ _ _ _)
      | (with_reducible exact ih5 _ _ _ _ _ _ _ _)
      | (with_reducible exact caravellaw28_cut.mono _ _ _)
      | (with_reducible exact caravellaw28_digits.mono _ _)
      | (with_reducible exact caravellaw28_shape.mono _ _)
      | (with_reducible exact caravellaw28_text.mono _ _)
      | (with_reducible exact LeO.refl _)
      | (with_reducible exact LeO.none _)
      | (with_reducible refine LeO.ite ?_ ?_)
      | (with_reducible refine LeO.bind ?_ (fun _ => ?_))
      | exact ih0 _ _ _
      | exact ih1 _ _ _ _ _ _
      | exact ih2 _ _ _ _ _
      | exact ih3 _ _ _ _ _ _
      | exact ih4 _ _ _ _ _ _ _
      | exact ih5 _ _ _ _ _ _ _ _
      | exact caravellaw28_cut.mono _ _ _
      | exact caravellaw28_digits.mono _ _
      | exact caravellaw28_shape.mono _ _
      | exact caravellaw28_text.mono _ _
      | exact LeO.none _
      | refine LeO.ite ?_ ?_
      | refine LeO.bind ?_ (fun _ => ?_)
    · intro y0 y1 y2 y3 y4
      unfold caravellaw28_parse.j2
      repeat' first
      | (with_reducible exact ih0 _ _ _)
      | (with_reducible exact ih1 _ _ _ _ _ _)
      | (with_reducible exact ih2 _ _ _ _ _)
      | (with_reducible exact ih3 _ _ _ _ _ _)
      | (with_reducible exact ih4 _ _ _ _ _ _ _)
      | (with_reducible exact ih5 _ _ _ _ _ _ _ _)
      | (with_reducible exact caravellaw28_cut.mono _ _ _)
      | (with_reducible exact caravellaw28_digits.mono _ _)
      | (with_reducible exact caravellaw28_shape.mono _ _)
      | (with_reducible exact caravellaw28_text.mono _ _)
      | (with_reducible exact LeO.refl _)
      | (with_reducible exact LeO.none _)
      | (with_reducible refine LeO.ite ?_ ?_)
      | (with_reducible refine LeO.bind ?_ (fun _ => ?_))
      | exact ih0 _ _ _
      | exact ih1 _ _ _ _ _ _
      | exact ih2 _ _ _ _ _
      | exact ih3 _ _ _ _ _ _
      | exact ih4 _ _ _ _ _ _ _
      | exact ih5 _ _ _ _ _ _ _ _
      | exact caravellaw28_cut.mono _ _ _
      | exact caravellaw28_digits.mono _ _
      | exact caravellaw28_shape.mono _ _
      | exact caravellaw28_text.mono _ _
      | exact LeO.none _
      | refine LeO.ite ?_ ?_
      | refine LeO.bind ?_ (fun _ => ?_)
    · intro y0 y1 y2 y3 y4 y5
      unfold caravellaw28_parse.j3
      repeat' first
      | (with_reducible exact ih0 _ _ _)
      | (with_reducible exact ih1 _ _ _ _ _ _)
      | (with_reducible exact ih2 _ _ _ _ _)
      | (with_reducible exact ih3 _ _ _ _ _ _)
      | (with_reducible exact ih4 _ _ _ _ _ _ _)
      | (with_reducible exact ih5 _ _ _ _ _ _ _ _)
      | (with_reducible exact caravellaw28_cut.mono _ _ _)
      | (with_reducible exact caravellaw28_digits.mono _ _)
      | (with_reducible exact caravellaw28_shape.mono _ _)
      | (with_reducible exact caravellaw28_text.mono _ _)
      | (with_reducible exact LeO.refl _)
      | (with_reducible exact LeO.none _)
      | (with_reducible refine LeO.ite ?_ ?_)
      | (with_reducible refine LeO.bind ?_ (fun _ => ?_))
      | exact ih0 _ _ _
      | exact ih1 _ _ _ _ _ _
      | exact ih2 _ _ _ _ _
      | exact ih3 _ _ _ _ _ _
      | exact ih4 _ _ _ _ _ _ _
      | exact ih5 _ _ _ _ _ _ _ _
      | exact caravellaw28_cut.mono _ _ _
      | exact caravellaw28_digits.mono _ _
      | exact caravellaw28_shape.mono _ _
      | exact caravellaw28_text.mono _ _
      | exact LeO.none _
      | refine LeO.ite ?_ ?_
      | refine LeO.bind ?_ (fun _ => ?_)
    · intro y0 y1 y2 y3 y4 y5 y6
      unfold caravellaw28_parse.l2
      repeat' first
      | (with_reducible exact ih0 _ _ _)
      | (with_reducible exact ih1 _ _ _ _ _ _)
      | (with_reducible exact ih2 _ _ _ _ _)
      | (with_reducible exact ih3 _ _ _ _ _ _)
      | (with_reducible exact ih4 _ _ _ _ _ _ _)
      | (with_reducible exact ih5 _ _ _ _ _ _ _ _)
      | (with_reducible exact caravellaw28_cut.mono _ _ _)
      | (with_reducible exact caravellaw28_digits.mono _ _)
      | (with_reducible exact caravellaw28_shape.mono _ _)
      | (with_reducible exact caravellaw28_text.mono _ _)
      | (with_reducible exact LeO.refl _)
      | (with_reducible exact LeO.none _)
      | (with_reducible refine LeO.ite ?_ ?_)
      | (with_reducible refine LeO.bind ?_ (fun _ => ?_))
      | exact ih0 _ _ _
      | exact ih1 _ _ _ _ _ _
      | exact ih2 _ _ _ _ _
      | exact ih3 _ _ _ _ _ _
      | exact ih4 _ _ _ _ _ _ _
      | exact ih5 _ _ _ _ _ _ _ _
      | exact caravellaw28_cut.mono _ _ _
      | exact caravellaw28_digits.mono _ _
      | exact caravellaw28_shape.mono _ _
      | exact caravellaw28_text.mono _ _
      | exact LeO.none _
      | refine LeO.ite ?_ ?_
      | refine LeO.bind ?_ (fun _ => ?_)
    · intro y0 y1 y2 y3 y4 y5 y6 y7
      unfold caravellaw28_parse.j5
      repeat' first
      | (with_reducible exact ih0 _ _ _)
      | (with_reducible exact ih1 _ _ _ _ _ _)
      | (with_reducible exact ih2 _ _ _ _ _)
      | (with_reducible exact ih3 _ _ _ _ _ _)
      | (with_reducible exact ih4 _ _ _ _ _ _ _)
      | (with_reducible exact ih5 _ _ _ _ _ _ _ _)
      | (with_reducible exact caravellaw28_cut.mono _ _ _)
      | (with_reducible exact caravellaw28_digits.mono _ _)
      | (with_reducible exact caravellaw28_shape.mono _ _)
      | (with_reducible exact caravellaw28_text.mono _ _)
      | (with_reducible exact LeO.refl _)
      | (with_reducible exact LeO.none _)
      | (with_reducible refine LeO.ite ?_ ?_)
      | (with_reducible refine LeO.bind ?_ (fun _ => ?_))
      | exact ih0 _ _ _
      | exact ih1 _ _ _ _ _ _
      | exact ih2 _ _ _ _ _
      | exact ih3 _ _ _ _ _ _
      | exact ih4 _ _ _ _ _ _ _
      | exact ih5 _ _ _ _ _ _ _ _
      | exact caravellaw28_cut.mono _ _ _
      | exact caravellaw28_digits.mono _ _
      | exact caravellaw28_shape.mono _ _
      | exact caravellaw28_text.mono _ _
      | exact LeO.none _
      | refine LeO.ite ?_ ?_
      | refine LeO.bind ?_ (fun _ => ?_)
theorem caravellaw28_parse.mono : ∀ a0 k, LeO (caravellaw28_parse.f k a0) (caravellaw28_parse.f (k + 1) a0) := by
  intro a0 k
  obtain ⟨ih0, ih1, ih2, ih3, ih4, ih5⟩ := caravellaw28_parse.mono_l k
  unfold caravellaw28_parse.f
  repeat' first
      | (with_reducible exact ih0 _ _ _)
      | (with_reducible exact ih1 _ _ _ _ _ _)
      | (with_reducible exact ih2 _ _ _ _ _)
      | (with_reducible exact ih3 _ _ _ _ _ _)
      | (with_reducible exact ih4 _ _ _ _ _ _ _)
      | (with_reducible exact ih5 _ _ _ _ _ _ _ _)
      | (with_reducible exact caravellaw28_cut.mono _ _ _)
      | (with_reducible exact caravellaw28_digits.mono _ _)
      | (with_reducible exact caravellaw28_shape.mono _ _)
      | (with_reducible exact caravellaw28_text.mono _ _)
      | (with_reducible exact LeO.refl _)
      | (with_reducible exact LeO.none _)
      | (with_reducible refine LeO.ite ?_ ?_)
      | (with_reducible refine LeO.bind ?_ (fun _ => ?_))
      | exact ih0 _ _ _
      | exact ih1 _ _ _ _ _ _
      | exact ih2 _ _ _ _ _
      | exact ih3 _ _ _ _ _ _
      | exact ih4 _ _ _ _ _ _ _
      | exact ih5 _ _ _ _ _ _ _ _
      | exact caravellaw28_cut.mono _ _ _
      | exact caravellaw28_digits.mono _ _
      | exact caravellaw28_shape.mono _ _
      | exact caravellaw28_text.mono _ _
      | exact LeO.none _
      | refine LeO.ite ?_ ?_
      | refine LeO.bind ?_ (fun _ => ?_)
set_option maxHeartbeats 8000000 in
set_option maxRecDepth 100000 in
theorem caravellaw28_parse.calls (k : Nat) (a0 : ByteArray) (r1 : List (S31)) (r2 : Int) (r3 : Int) (w : World) (h : caravellaw28_parse.f k a0 = some (r1, r2, r3)) :
    Calls Tryd.prog 5 #[.string a0] w fun e w' => ∃ v0_ : Value, e = .returned (.tuple #[v0_, .int .i64 r2, .int .i64 r3]) ∧ Kd.S k31 31 w' w.heap.size (fun _ => True) v0_ r1 ∧ Below w.heap.size w w' := by
  have hu31 := Tryd.underlying31
  have HB := Aside0.mk (Below.refl w.heap.size w)
  have H : (if (a0.size : Int) > 1048576 then (some (([] : List (S31)), 0, 3)) else ((caravellaw28_cut.f k a0 10).bind fun t107 => (caravellaw28_parse.l0 k ([] : List (S31)) t107 0))) = some (r1, r2, r3) := h
  clear h
  by_cases c2 : (a0.size : Int) > 1048576
  · rw [if_pos c2] at H
    have c2b0 : decide (1048576 < (a0.size : Int)) = true := decide_eq_true c2
    have c2b1 : decide (1048576 < a0.size) = true := decide_eq_true (by omega)
    clear c2
    simp only [Option.some.injEq, Prod.mk.injEq] at H
    obtain ⟨rfl, rfl, rfl⟩ := H
    go_enter Tryd.func5, Tryd.ntmps5
    go_wp2
    go_ret3
    exact ⟨_, by first | rfl | (simp [errW_none, errW_some] <;> rfl) | (simp [*, errW_none, errW_some] <;> rfl), by first | exact Kd.S_nil _ _ _ _ _ | exact Kd.N_nil _ _ _ _ _ | exact Kd.V_nil _ _ _ _ _ | exact Kd.Q_nil _ _ _ _ _ | exact Kd.R_nil _ _ _ _ _, by repeat (first | (with_reducible first | exact HB.out | apply below_alloc | apply pw_below_drewN | apply below_drew1) | exact HB.out)⟩
  · rw [if_neg c2] at H
    have c2b0 : decide (1048576 < (a0.size : Int)) = false := decide_eq_false c2
    have c2b1 : decide (1048576 < a0.size) = false := decide_eq_false (by omega)
    clear c2
    replace H := Option.bind_eq_some_iff.mp H
    obtain ⟨t107, A30, H⟩ := H
    replace H : (caravellaw28_parse.l0 k ([] : List (S31)) t107 0) = some (r1, r2, r3) := H
    have A3 := Aside0.mk A30
    clear A30
    have H' := Aside0.mk H
    clear H
    go_enter Tryd.func5, Tryd.ntmps5
    go_wp2_with (first | ((with_reducible refine gate_callee (f := 7) rfl ?_); refine goesL_ (some 18) rfl rfl Tryd.func7 (by kernel_rfl) rfl #[.string a0, .int .u8 10] rfl (by (try simp only [List.map_toArray, List.map_cons, List.map_nil]); first | done | rfl | (simp only [List.length_drop, List.length_take]; rfl)) ?_; (with_reducible refine (caravellaw28_cut.calls k a0 10 t107 _ A3.out).mono ?_); rintro e w4 ⟨v108, rfl, ho0, hb⟩; refine ⟨_, rfl, ?_⟩; have n0_ := Aside0.mk (Kd.R_lower ho0 (below_size (by repeat (first | (with_reducible first | exact HB.out | apply below_alloc | apply pw_below_drewN | apply below_drew1) | exact HB.out)))); have n1_ := Aside0.mk (below_step (by repeat (first | (with_reducible first | exact HB.out | apply below_alloc | apply pw_below_drewN | apply below_drew1) | exact HB.out)) hb); clear HB; have HO109 := n0_; have HB := n1_; clear n0_ n1_; (try clear hb); (try clear hb2); (try clear hk); (try clear hi); (try clear ho0)))
    go_loopg [5, 7] k (fun kq v5 v7 w' => ∃ (x5_1 : List (S31)) (x7_1 : Int), v7 = .int .i64 x7_1 ∧ Aside0 (caravellaw28_parse.l0 kq x5_1 t107 x7_1 = some (r1, r2, r3)) ∧ Aside0 (kq ≤ k) ∧ Aside0 (Kd.S k31 31 w' w.heap.size (fun k_ => some k_ ≠ (v108 : Value).ownBlock) v5 x5_1) ∧ Aside0 (Kd.R Kd.string 9 w' w.heap.size (fun _ => True) v108 t107) ∧ Aside0 (Below w.heap.size w w'))
    case atStart => exact ⟨(([] : List (S31))), (0), (by first | rfl | (simp; done) | (simp [*]; done)), H', ⟨Nat.le_refl _⟩, ⟨by first | exact Kd.S_nil _ _ _ _ _ | exact Kd.N_nil _ _ _ _ _ | exact Kd.V_nil _ _ _ _ _ | exact Kd.Q_nil _ _ _ _ _ | exact Kd.R_nil _ _ _ _ _⟩, ⟨by (with_reducible repeat (first | apply Kd.R_alloc | apply Kd.R_drewN | apply Kd.R_drew)); exact HO109.out⟩, ⟨by repeat (first | (with_reducible first | exact HB.out | apply below_alloc | apply pw_below_drewN | apply below_drew1) | exact HB.out)⟩⟩
    case round =>
      clear H'
      try clear c2
      try clear c2b0
      try clear c2b1
      try clear p2
      obtain ⟨x5_1, x7_1, rfl, HA, HK1, HO_5, HO_6, HB⟩ := hrel
      cases gk with
      | zero => exact absurd HA.out (by simp [caravellaw28_parse.l0])
      | succ k1 =>
        have H := HA.out
        clear HA
        simp only [caravellaw28_parse.l0] at H
        by_cases c5 : x7_1 < (t107.length : Int)
        · rw [if_pos c5] at H
          have c5b0 : decide (x7_1 < (t107.length : Int)) = true := decide_eq_true c5
          clear c5
          by_cases c6 : 0 ≤ x7_1
          · rw [if_pos c6] at H
            have c6b0 : decide (0 ≤ x7_1) = true := decide_eq_true c6
            clear c6
            replace H := Option.bind_eq_some_iff.mp H
            obtain ⟨t111, A70, H⟩ := H
            replace H : (caravellaw28_parse.l1 k1 x5_1 t107 x7_1 ([] : List ByteArray) t111 0) = some (r1, r2, r3) := H
            have A7 := Aside0.mk A70
            clear A70
            have H' := Aside0.mk H
            clear H
            obtain ⟨Ao8, co8, eo8⟩ := Kd.R_slice HO_6.out
            subst eo8
            have p110 : 0 ≤ (x7_1 : Int) := of_decide_eq_true (by first | (with_reducible assumption) | assumption)
            have q110 : x7_1 < (t107.length : Int) := of_decide_eq_true (by first | (with_reducible assumption) | assumption)
            obtain ⟨ad110, e110, hx110_0⟩ := Kd.at_string (Kd.R_reads' HO_6.out).2.2 x7_1 p110 q110
            cases e110
            replace p110 := eq_true p110
            replace q110 := eq_true q110
            go_wp2_with (first | ((with_reducible refine gate_callee (f := 7) rfl ?_); refine goesL_ (some 29) rfl rfl Tryd.func7 (by kernel_rfl) rfl #[.string (rdOf ByteArray.empty t107 x7_1), .int .u8 32] rfl (by (try simp only [List.map_toArray, List.map_cons, List.map_nil]); first | done | rfl | (simp only [List.length_drop, List.length_take]; rfl)) ?_; (with_reducible refine (caravellaw28_cut.calls k1 (rdOf ByteArray.empty t107 x7_1) 32 t111 _ A7.out).mono ?_); rintro e w9 ⟨v112, rfl, ho0, hb⟩; refine ⟨_, rfl, ?_⟩; have n0_ := Aside0.mk (Kd.S_elder' (by (with_reducible repeat (first | apply Kd.S_alloc | apply Kd.S_drewN | apply Kd.S_drew)); exact HO_5.out) (Kd.R_base ho0) hb); have n1_ := Aside0.mk (Kd.R_elder' (by (with_reducible repeat (first | apply Kd.R_alloc | apply Kd.R_drewN | apply Kd.R_drew)); exact HO_6.out) (Kd.R_base ho0) hb); have n2_ := Aside0.mk (Kd.R_lower (Kd.R_new' ho0 (Kd.R_lt (by (with_reducible repeat (first | apply Kd.R_alloc | apply Kd.R_drewN | apply Kd.R_drew)); exact HO_6.out))) (below_size (by repeat (first | (with_reducible first | exact HB.out | apply below_alloc | apply pw_below_drewN | apply below_drew1) | exact HB.out)))); have n3_ := Aside0.mk (below_step (by repeat (first | (with_reducible first | exact HB.out | apply below_alloc | apply pw_below_drewN | apply below_drew1) | exact HB.out)) hb); clear HO_5; clear HO_6; clear HB; have HO_5 := n0_; have HO_6 := n1_; have HO113 := n2_; have HB := n3_; clear n0_ n1_ n2_ n3_; (try clear hb); (try clear hb2); (try clear hk); (try clear hi); (try clear ho0)))
            go_loopg [8, 10] k1 (fun kq v8 v10 w' => ∃ (x8_2 : List ByteArray) (x10_2 : Int), v10 = .int .i64 x10_2 ∧ Aside0 (caravellaw28_parse.l1 kq x5_1 t107 x7_1 x8_2 t111 x10_2 = some (r1, r2, r3)) ∧ Aside0 (kq ≤ k1) ∧ Aside0 (Kd.S k31 31 w' w.heap.size (fun k_ => some k_ ≠ ((.slice (some ad110) t107.length co8) : Value).ownBlock ∧ some k_ ≠ (v8 : Value).ownBlock ∧ some k_ ≠ (v112 : Value).ownBlock) u5 x5_1) ∧ Aside0 (Kd.R Kd.string 9 w' w.heap.size (fun k_ => some k_ ≠ (v8 : Value).ownBlock ∧ some k_ ≠ (v112 : Value).ownBlock) (.slice (some ad110) t107.length co8) t107) ∧ Aside0 (Kd.R Kd.string 9 w' w.heap.size (fun k_ => some k_ ≠ ((.slice (some ad110) t107.length co8) : Value).ownBlock ∧ some k_ ≠ (v112 : Value).ownBlock) v8 x8_2) ∧ Aside0 (Kd.R Kd.string 9 w' w.heap.size (fun k_ => some k_ ≠ ((.slice (some ad110) t107.length co8) : Value).ownBlock ∧ some k_ ≠ (v8 : Value).ownBlock) v112 t111) ∧ Aside0 (Below w.heap.size w w'))
            case atStart => exact ⟨(([] : List ByteArray)), (0), (by first | rfl | (simp; done) | (simp [*]; done)), H', ⟨Nat.le_refl _⟩, ⟨by (with_reducible repeat (first | apply Kd.S_alloc | apply Kd.S_drewN | apply Kd.S_drew)); exact Kd.S_mono HO_5.out (fun _ hk => ⟨hk.1, ⟨(by simp [Value.ownBlock]), hk.2⟩⟩)⟩, ⟨by (with_reducible repeat (first | apply Kd.R_alloc | apply Kd.R_drewN | apply Kd.R_drew)); exact Kd.R_mono HO_6.out (fun _ hk => ⟨(by simp [Value.ownBlock]), hk.2⟩)⟩, ⟨by first | exact Kd.R_nil _ _ _ _ _ | exact Kd.N_nil _ _ _ _ _ | exact Kd.V_nil _ _ _ _ _ | exact Kd.Q_nil _ _ _ _ _ | exact Kd.S_nil _ _ _ _ _⟩, ⟨by (with_reducible repeat (first | apply Kd.R_alloc | apply Kd.R_drewN | apply Kd.R_drew)); exact Kd.R_mono HO113.out (fun _ hk => ⟨hk.2, (by simp [Value.ownBlock])⟩)⟩, ⟨by repeat (first | (with_reducible first | exact HB.out | apply below_alloc | apply pw_below_drewN | apply below_drew1) | exact HB.out)⟩⟩
            case round =>
              clear H'
              try clear p1
              try clear q1
              try clear hx1
              try clear c2
              try clear c2b0
              try clear c2b1
              try clear p2
              try clear c5
              try clear c5b0
              try clear c6
              try clear c6b0
              try clear c7
              try clear hx110_0
              try clear p110
              try clear p2
              try clear q110
              obtain ⟨x8_2, x10_2, rfl, HA, HK2, HO_5, HO_6, HO_8, HO_9, HB⟩ := hrel
              cases gk with
              | zero => exact absurd HA.out (by simp [caravellaw28_parse.l1])
              | succ k2 =>
                have H := HA.out
                clear HA
                simp only [caravellaw28_parse.l1] at H
                by_cases c10 : x10_2 < (t111.length : Int)
                · rw [if_pos c10] at H
                  have c10b0 : decide (x10_2 < (t111.length : Int)) = true := decide_eq_true c10
                  clear c10
                  by_cases c11 : 0 ≤ x10_2
                  · rw [if_pos c11] at H
                    have c11b0 : decide (0 ≤ x10_2) = true := decide_eq_true c11
                    clear c11
                    by_cases c12 : (rdOf ByteArray.empty t111 x10_2).toList = ([] : List UInt8)
                    · rw [if_pos c12] at H
                      have c12b0 : ((rdOf ByteArray.empty t111 x10_2).toList == ([] : List UInt8)) = true := beq_iff_eq.mpr c12
                      have c12b1 : ((rdOf ByteArray.empty t111 x10_2).toList != ([] : List UInt8)) = false := bne_eq_false_iff_eq.mpr c12
                      clear c12
                      have H' := Aside0.mk H
                      clear H
                      obtain ⟨Ao13, co13, eo13⟩ := Kd.R_slice HO_9.out
                      subst eo13
                      have p114 : 0 ≤ (x10_2 : Int) := of_decide_eq_true (by first | (with_reducible assumption) | assumption)
                      have q114 : x10_2 < (t111.length : Int) := of_decide_eq_true (by first | (with_reducible assumption) | assumption)
                      obtain ⟨ad114, e114, hx114_0⟩ := Kd.at_string (Kd.R_reads' HO_9.out).2.2 x10_2 p114 q114
                      cases e114
                      replace p114 := eq_true p114
                      replace q114 := eq_true q114
                      go_wp2
                      go_roundg k2
                      case measure => have := HK1.out; have := HK2.out; omega
                      case rel => exact ⟨(x8_2), (wrap64 (x10_2 + 1)), (by first | rfl | (simp; done) | (simp [*]; done)), H', ⟨by have := HK1.out; have := HK2.out; omega⟩, ⟨by (with_reducible repeat (first | apply Kd.S_alloc | apply Kd.S_drewN | apply Kd.S_drew)); exact HO_5.out⟩, ⟨by (with_reducible repeat (first | apply Kd.R_alloc | apply Kd.R_drewN | apply Kd.R_drew)); exact HO_6.out⟩, ⟨by (with_reducible repeat (first | apply Kd.R_alloc | apply Kd.R_drewN | apply Kd.R_drew)); exact HO_8.out⟩, ⟨by (with_reducible repeat (first | apply Kd.R_alloc | apply Kd.R_drewN | apply Kd.R_drew)); exact HO_9.out⟩, ⟨by repeat (first | (with_reducible first | exact HB.out | apply below_alloc | apply pw_below_drewN | apply below_drew1) | exact HB.out)⟩⟩
                    · rw [if_neg c12] at H
                      have c12b0 : ((rdOf ByteArray.empty t111 x10_2).toList == ([] : List UInt8)) = false := beq_eq_false_iff_ne.mpr c12
                      have c12b1 : ((rdOf ByteArray.empty t111 x10_2).toList != ([] : List UInt8)) = true := bne_iff_ne.mpr c12
                      by_cases c14 : x8_2.length < 8796093022208
                      · rw [if_pos c14] at H
                        have LMc14 := Aside0.mk c14
                        clear c14
                        obtain ⟨y116, hy116⟩ : ∃ y_ : List ByteArray, y_ = (x8_2 ++ [rdOf ByteArray.empty t111 x10_2]) := ⟨_, rfl⟩
                        replace H : (caravellaw28_parse.l1 k2 x5_1 t107 x7_1 y116 t111 (wrap64 (x10_2 + 1))) = some (r1, r2, r3) := by first | (rw [hy116]; with_reducible exact H) | (have H2_ := (Option.bind_some _ _).symm.trans H; rw [hy116]; with_reducible exact H2_) | (have H2_ := (Option.bind_some _ _).symm.trans H; with_reducible exact H2_) | with_reducible exact H | (rw [hy116]; exact H) | exact H
                        have Ny116 := Aside0.mk hy116
                        clear hy116
                        have H' := Aside0.mk H
                        clear H
                        obtain ⟨Ao15, co15, eo15⟩ := Kd.R_slice HO_9.out
                        subst eo15
                        have p114 : 0 ≤ (x10_2 : Int) := of_decide_eq_true (by first | (with_reducible assumption) | assumption)
                        have q114 : x10_2 < (t111.length : Int) := of_decide_eq_true (by first | (with_reducible assumption) | assumption)
                        obtain ⟨ad114, e114, hx114_0⟩ := Kd.at_string (Kd.R_reads' HO_9.out).2.2 x10_2 p114 q114
                        cases e114
                        replace p114 := eq_true p114
                        replace q114 := eq_true q114
                        have p115 : 0 ≤ (x10_2 : Int) := of_decide_eq_true (by first | (with_reducible assumption) | assumption)
                        have q115 : x10_2 < (t111.length : Int) := of_decide_eq_true (by first | (with_reducible assumption) | assumption)
                        obtain ⟨ad115, e115, hx115_0⟩ := Kd.at_string (Kd.R_reads' HO_9.out).2.2 x10_2 p115 q115
                        obtain rfl : ad114 = ad115 := (by injection e115)
                        replace p115 := eq_true p115
                        replace q115 := eq_true q115
                        go_wp2_with (first | ((with_reducible refine gate_builtin (b := .append) (xs := #[.tmp 41, .tmp 46]) rfl ?_); (try (refine gate_guard (by rfl) ?_; dsimp only)); at_builtin; refine Kd.R_append Kd.string (w0 := w) w.heap.size rfl (.tmp 41) (.tmp 46) 29 9 (.string ⟨#[]⟩) 16 rfl Tryd.underlying29 info9 rfl (by decide) (by omega) u8 x8_2 (rdOf ByteArray.empty t111 x10_2) [.string (rdOf ByteArray.empty t111 x10_2)] (fun k_ => some k_ ≠ (.slice (some ad110) t107.length co8 : Value).ownBlock ∧ some k_ ≠ (.slice (some ad114) t111.length co15 : Value).ownBlock) (fun _ => False) rfl rfl ?aP (fun _ hk => hk.elim) ?aF ?aO ?aB ?aS ?aL ?_; (case aP => exact rfl); (case aB => exact (by repeat (first | (with_reducible first | exact HB.out | apply below_alloc | apply pw_below_drewN | apply below_drew1) | exact HB.out))); (case aF => exact (fun k_ hk => ⟨Kd.fresh' (Kd.R_lt (by (with_reducible repeat (first | apply Kd.R_alloc | apply Kd.R_drewN | apply Kd.R_drew)); exact HO_6.out)) k_ hk, Kd.fresh' (Kd.R_lt (by (with_reducible repeat (first | apply Kd.R_alloc | apply Kd.R_drewN | apply Kd.R_drew)); exact HO_9.out)) k_ hk⟩)); (case aO => exact (by (with_reducible repeat (first | apply Kd.R_alloc | apply Kd.R_drewN | apply Kd.R_drew)); exact HO_8.out)); (case aS => exact (below_size (by repeat (first | (with_reducible first | exact HB.out | apply below_alloc | apply pw_below_drewN | apply below_drew1) | exact HB.out)))); (case aL => have := LMc14.out; omega); intro v117 w16 ho hb hg hat; rw [← Ny116.out] at ho; have n0_ := Aside0.mk (Kd.S_after (ok := (fun k_ => some k_ ≠ (.slice (some ad110) t107.length co8 : Value).ownBlock ∧ some k_ ≠ (.slice (some ad114) t111.length co15 : Value).ownBlock)) (by (with_reducible repeat (first | apply Kd.S_alloc | apply Kd.S_drewN | apply Kd.S_drew)); exact Kd.S_mono HO_5.out (fun _ hk => ⟨⟨hk.1, hk.2.2⟩, hk.2.1⟩)) hg hat); have n1_ := Aside0.mk (Kd.R_after (ok := (fun k_ => some k_ ≠ (.slice (some ad114) t111.length co15 : Value).ownBlock)) (by (with_reducible repeat (first | apply Kd.R_alloc | apply Kd.R_drewN | apply Kd.R_drew)); exact Kd.R_mono HO_6.out (fun _ hk => ⟨hk.2, hk.1⟩)) hg hat); have n2_ := Aside0.mk (Kd.R_after (ok := (fun k_ => some k_ ≠ (.slice (some ad110) t107.length co8 : Value).ownBlock)) (by (with_reducible repeat (first | apply Kd.R_alloc | apply Kd.R_drewN | apply Kd.R_drew)); exact HO_9.out) hg hat); have n3_ := Aside0.mk (hb); have n4_ := Aside0.mk (ho); clear HO_5; clear HO_6; clear HO_9; clear HB; clear HO_8; have HO_5 := n0_; have HO_6 := n1_; have HO_9 := n2_; have HB := n3_; have HO118 := n4_; clear n0_ n1_ n2_ n3_ n4_; clear ho hb hg hat))
                        go_roundg k2
                        case measure => have := HK1.out; have := HK2.out; omega
                        case rel => exact ⟨(y116), (wrap64 (x10_2 + 1)), (by first | rfl | (simp; done) | (simp [*]; done)), H', ⟨by have := HK1.out; have := HK2.out; omega⟩, ⟨by (with_reducible repeat (first | apply Kd.S_alloc | apply Kd.S_drewN | apply Kd.S_drew)); exact Kd.S_mono HO_5.out (fun _ hk => ⟨hk.1.1, ⟨hk.2, hk.1.2⟩⟩)⟩, ⟨by (with_reducible repeat (first | apply Kd.R_alloc | apply Kd.R_drewN | apply Kd.R_drew)); exact Kd.R_mono HO_6.out (fun _ hk => ⟨hk.2, hk.1⟩)⟩, ⟨by (with_reducible repeat (first | apply Kd.R_alloc | apply Kd.R_drewN | apply Kd.R_drew)); exact HO118.out⟩, ⟨by (with_reducible repeat (first | apply Kd.R_alloc | apply Kd.R_drewN | apply Kd.R_drew)); exact HO_9.out⟩, ⟨by repeat (first | (with_reducible first | exact HB.out | apply below_alloc | apply pw_below_drewN | apply below_drew1) | exact HB.out)⟩⟩
                      · rw [if_neg c14] at H
                        exact absurd H (by simp)
                  · rw [if_neg c11] at H
                    exact absurd H (by simp)
                · rw [if_neg c10] at H
                  have c10b0 : decide (x10_2 < (t111.length : Int)) = false := decide_eq_false c10
                  clear c10
                  have HC17 := Aside0.mk H
                  clear H
                  obtain ⟨Ao18, co18, eo18⟩ := Kd.R_slice HO_9.out
                  subst eo18
                  go_upto_region 15 with (fail)
                  go_cut [57] (fun v57 wc => ∃ (kq : Nat) (x57_16 : Bool), v57 = .bool x57_16 ∧ Aside0 (caravellaw28_parse.j2 kq x5_1 t107 x7_1 x8_2 x57_16 = some (r1, r2, r3)) ∧ Aside0 (kq ≤ k2) ∧ Aside0 (Kd.S k31 31 wc w.heap.size (fun k_ => some k_ ≠ ((.slice (some ad110) t107.length co8) : Value).ownBlock ∧ some k_ ≠ (u8 : Value).ownBlock) u5 x5_1) ∧ Aside0 (Kd.R Kd.string 9 wc w.heap.size (fun k_ => some k_ ≠ (u8 : Value).ownBlock) (.slice (some ad110) t107.length co8) t107) ∧ Aside0 (Kd.R Kd.string 9 wc w.heap.size (fun k_ => some k_ ≠ ((.slice (some ad110) t107.length co8) : Value).ownBlock) u8 x8_2) ∧ Aside0 (Below w.heap.size w wc))
                  case first =>
                    have H := HC17.out
                    clear HC17
                    by_cases c19 : (x8_2.length : Int) = 0
                    · rw [if_pos c19] at H
                      have c19b0 : ((x8_2.length : Int) == 0) = true := beq_iff_eq.mpr c19
                      have c19b1 : ((x8_2.length : Int) != 0) = false := bne_eq_false_iff_eq.mpr c19
                      clear c19
                      (first | rw [c19b0] | (simp only [i64_w, i32_w]; rw [c19b0]) | skip)
                      have H' := Aside0.mk H
                      clear H
                      obtain ⟨Ao20, co20, eo20⟩ := Kd.R_slice HO_8.out
                      subst eo20
                      go_wp2
                      go_meet
                      case rel => exact ⟨_, (true), (by first | rfl | (simp; done) | (simp [*]; done)), H', ⟨by have := HK1.out; have := HK2.out; first | omega | exact Nat.le_refl _⟩, ⟨by (with_reducible repeat (first | apply Kd.S_alloc | apply Kd.S_drewN | apply Kd.S_drew)); exact Kd.S_mono HO_5.out (fun _ hk => ⟨hk.1, hk.2.1⟩)⟩, ⟨by (with_reducible repeat (first | apply Kd.R_alloc | apply Kd.R_drewN | apply Kd.R_drew)); exact Kd.R_mono HO_6.out (fun _ hk => hk.1)⟩, ⟨by (with_reducible repeat (first | apply Kd.R_alloc | apply Kd.R_drewN | apply Kd.R_drew)); exact Kd.R_mono HO_8.out (fun _ hk => hk.1)⟩, ⟨by repeat (first | (with_reducible first | exact HB.out | apply below_alloc | apply pw_below_drewN | apply below_drew1) | exact HB.out)⟩⟩
                    · rw [if_neg c19] at H
                      have c19b0 : ((x8_2.length : Int) == 0) = false := beq_eq_false_iff_ne.mpr c19
                      have c19b1 : ((x8_2.length : Int) != 0) = true := bne_iff_ne.mpr c19
                      have c19b2 : ¬ (x8_2 = []) := fun h_ => c19 (by rw [h_]; rfl)
                      (first | rw [c19b0] | (simp only [i64_w, i32_w]; rw [c19b0]) | skip)
                      by_cases c21 : 0 < (x8_2.length : Int)
                      · rw [if_pos c21] at H
                        have c21b0 : decide (0 < (x8_2.length : Int)) = true := decide_eq_true c21
                        have c21b1 : decide (0 < x8_2.length) = true := decide_eq_true (by omega)
                        clear c21
                        by_cases c22 : 0 < ((rdOf ByteArray.empty x8_2 0).size : Int)
                        · rw [if_pos c22] at H
                          have c22b0 : decide (0 < ((rdOf ByteArray.empty x8_2 0).size : Int)) = true := decide_eq_true c22
                          have c22b1 : decide (0 < (rdOf ByteArray.empty x8_2 0).size) = true := decide_eq_true (by omega)
                          clear c22
                          have H' := Aside0.mk H
                          clear H
                          obtain ⟨Ao24, co24, eo24⟩ := Kd.R_slice HO_8.out
                          subst eo24
                          have p119 : 0 ≤ (0 : Int) := (by omega)
                          have q119 : 0 < (x8_2.length : Int) := of_decide_eq_true (by first | (with_reducible assumption) | assumption)
                          obtain ⟨ad119, e119, hx119_0⟩ := Kd.at_string (Kd.R_reads' HO_8.out).2.2 0 p119 q119
                          cases e119
                          have qi119 : (0 < x8_2.length) = True := eq_true (by omega)
                          (try rw [show ((0 : Int)).toNat = 0 from rfl] at hx119_0)
                          (try rw [Addr.add_zero'] at hx119_0)
                          replace p119 := eq_true p119
                          replace q119 := eq_true q119
                          have p23 : 0 ≤ (0 : Int) := (by omega)
                          have q23 : 0 < (rdOf ByteArray.empty x8_2 0).size := (by have : (0 : Int) < ((rdOf ByteArray.empty x8_2 0).size : Int) := of_decide_eq_true (by first | (with_reducible assumption) | assumption); omega)
                          have hx23 : ∀ h : 0 < (rdOf ByteArray.empty x8_2 0).size, (((rdOf ByteArray.empty x8_2 0)[0]'h).toNat : Int) = bt (rdOf ByteArray.empty x8_2 0) 0 := bt_at (rdOf ByteArray.empty x8_2 0) 0
                          clear p23
                          have qi23 : (0 < ((rdOf ByteArray.empty x8_2 0).size : Int)) = True := eq_true (of_decide_eq_true (by first | (with_reducible assumption) | assumption))
                          replace q23 := eq_true q23
                          go_wp2
                          go_meet
                          case rel => exact ⟨_, (((bt (rdOf ByteArray.empty x8_2 0) 0) == 35)), (by first | rfl | (simp; done) | (simp [*]; done)), H', ⟨by have := HK1.out; have := HK2.out; first | omega | exact Nat.le_refl _⟩, ⟨by (with_reducible repeat (first | apply Kd.S_alloc | apply Kd.S_drewN | apply Kd.S_drew)); exact Kd.S_mono HO_5.out (fun _ hk => ⟨hk.1, hk.2.1⟩)⟩, ⟨by (with_reducible repeat (first | apply Kd.R_alloc | apply Kd.R_drewN | apply Kd.R_drew)); exact Kd.R_mono HO_6.out (fun _ hk => hk.1)⟩, ⟨by (with_reducible repeat (first | apply Kd.R_alloc | apply Kd.R_drewN | apply Kd.R_drew)); exact Kd.R_mono HO_8.out (fun _ hk => hk.1)⟩, ⟨by repeat (first | (with_reducible first | exact HB.out | apply below_alloc | apply pw_below_drewN | apply below_drew1) | exact HB.out)⟩⟩
                        · rw [if_neg c22] at H
                          exact absurd H (by simp)
                      · rw [if_neg c21] at H
                        exact absurd H (by simp)
                  case rest =>
                    clear HC17
                    try clear c1
                    try clear p1
                    try clear q1
                    try clear hx1
                    try clear qi1
                    try clear c2
                    try clear c2b0
                    try clear c2b1
                    try clear p2
                    try clear q2
                    try clear hx2
                    try clear qi2
                    try clear c5
                    try clear c5b0
                    try clear c6
                    try clear c6b0
                    try clear p6
                    try clear c7
                    try clear c10
                    try clear c10b0
                    try clear c11
                    try clear c11b0
                    try clear p11
                    try clear q11
                    try clear hx11
                    try clear qi11
                    try clear c12
                    try clear c12b0
                    try clear c12b1
                    try clear c14
                    try clear c19
                    try clear c19b0
                    try clear c19b1
                    try clear c19b2
                    try clear c21
                    try clear c21b0
                    try clear c21b1
                    try clear c22
                    try clear c22b0
                    try clear c22b1
                    try clear p23
                    try clear q23
                    try clear hx23
                    try clear qi23
                    try clear hx110_0
                    try clear hx114_0
                    try clear hx115_0
                    try clear hx119_0
                    try clear p1
                    try clear p110
                    try clear p114
                    try clear p115
                    try clear p119
                    try clear p2
                    try clear p23
                    try clear q1
                    try clear q110
                    try clear q114
                    try clear q115
                    try clear q119
                    try clear q23
                    obtain ⟨kq, x57_16, rfl, HA, HJ16, HO_5, HO_6, HO_8, HB⟩ := hcut
                    cases kq with
                    | zero => exact absurd HA.out (by simp [caravellaw28_parse.j2])
                    | succ kj16 =>
                      have H := HA.out
                      clear HA
                      simp only [caravellaw28_parse.j2] at H
                      by_cases c25 : x57_16 = true
                      · subst c25
                        have H1 : (caravellaw28_parse.l0 kj16 x5_1 t107 (wrap64 (x7_1 + 1))) = some (r1, r2, r3) := by rw [if_pos rfl] at H; exact H
                        clear H
                        have H := H1
                        clear H1
                        have H' := Aside0.mk H
                        clear H
                        go_wp2
                        go_roundg kj16
                        case measure => have := HK1.out; have := HK2.out; have := HJ16.out; omega
                        case rel => exact ⟨(x5_1), (wrap64 (x7_1 + 1)), (by first | rfl | (simp; done) | (simp [*]; done)), H', ⟨by have := HK1.out; have := HK2.out; have := HJ16.out; omega⟩, ⟨by (with_reducible repeat (first | apply Kd.S_alloc | apply Kd.S_drewN | apply Kd.S_drew)); exact Kd.S_mono HO_5.out (fun _ hk => hk.1)⟩, ⟨by (with_reducible repeat (first | apply Kd.R_alloc | apply Kd.R_drewN | apply Kd.R_drew)); exact Kd.R_mono HO_6.out (fun _ hk => trivial)⟩, ⟨by repeat (first | (with_reducible first | exact HB.out | apply below_alloc | apply pw_below_drewN | apply below_drew1) | exact HB.out)⟩⟩
                      · replace c25 := Bool.eq_false_iff.mpr c25
                        subst c25
                        have H1 : (if 0 < (x8_2.length : Int) then ((caravellaw28_shape.f kj16 (rdOf ByteArray.empty x8_2 0)).bind fun t121 => (if t121.toList = ([63] : List UInt8) then (caravellaw28_parse.j3 kj16 x5_1 t107 x7_1 x8_2 t121 false) else (caravellaw28_parse.j3 kj16 x5_1 t107 x7_1 x8_2 t121 ((t121.size : Int) == (wrap64 ((x8_2.length : Int) - 1)))))) else (none)) = some (r1, r2, r3) := by rw [if_neg (show ¬ (false = true) by decide)] at H; exact H
                        clear H
                        have H := H1
                        clear H1
                        by_cases c26 : 0 < (x8_2.length : Int)
                        · rw [if_pos c26] at H
                          have c26b0 : decide (0 < (x8_2.length : Int)) = true := decide_eq_true c26
                          have c26b1 : decide (0 < x8_2.length) = true := decide_eq_true (by omega)
                          clear c26
                          replace H := Option.bind_eq_some_iff.mp H
                          obtain ⟨t121, A270, H⟩ := H
                          replace H : (if t121.toList = ([63] : List UInt8) then (caravellaw28_parse.j3 kj16 x5_1 t107 x7_1 x8_2 t121 false) else (caravellaw28_parse.j3 kj16 x5_1 t107 x7_1 x8_2 t121 ((t121.size : Int) == (wrap64 ((x8_2.length : Int) - 1))))) = some (r1, r2, r3) := H
                          have A27 := Aside0.mk A270
                          clear A270
                          have HC28 := Aside0.mk H
                          clear H
                          obtain ⟨Ao29, co29, eo29⟩ := Kd.R_slice HO_8.out
                          subst eo29
                          have p120 : 0 ≤ (0 : Int) := (by omega)
                          have q120 : 0 < (x8_2.length : Int) := of_decide_eq_true (by first | (with_reducible assumption) | assumption)
                          obtain ⟨ad120, e120, hx120_0⟩ := Kd.at_string (Kd.R_reads' HO_8.out).2.2 0 p120 q120
                          cases e120
                          have qi120 : (0 < x8_2.length) = True := eq_true (by omega)
                          (try rw [show ((0 : Int)).toNat = 0 from rfl] at hx120_0)
                          (try rw [Addr.add_zero'] at hx120_0)
                          replace p120 := eq_true p120
                          replace q120 := eq_true q120
                          go_upto_region 17 with (first | ((with_reducible refine gate_callee (f := 8) rfl ?_); refine goesL_ (some 61) rfl rfl Tryd.func8 (by kernel_rfl) rfl #[.string (rdOf ByteArray.empty x8_2 0)] rfl (by (try simp only [List.map_toArray, List.map_cons, List.map_nil]); first | done | rfl | (simp only [List.length_drop, List.length_take]; rfl)) ?_; (with_reducible refine (caravellaw28_shape.calls kj16 (rdOf ByteArray.empty x8_2 0) t121 _ A27.out).mono ?_); rintro e w' ⟨rfl, ⟨nd, rfl⟩⟩; refine ⟨_, rfl, ?_⟩))
                          (try simp only [Act.put, List.setIfInBounds_toArray, List.set_cons_zero, List.set_cons_succ])
                          go_cut [12] (fun v12 wc => ∃ (kq : Nat) (x12_27 : Bool), v12 = .bool x12_27 ∧ Aside0 (caravellaw28_parse.j3 kq x5_1 t107 x7_1 x8_2 t121 x12_27 = some (r1, r2, r3)) ∧ Aside0 (kq ≤ kj16) ∧ Aside0 (Kd.S k31 31 wc w.heap.size (fun k_ => some k_ ≠ ((.slice (some ad110) t107.length co8) : Value).ownBlock ∧ some k_ ≠ ((.slice (some ad120) x8_2.length co29) : Value).ownBlock) u5 x5_1) ∧ Aside0 (Kd.R Kd.string 9 wc w.heap.size (fun k_ => some k_ ≠ ((.slice (some ad120) x8_2.length co29) : Value).ownBlock) (.slice (some ad110) t107.length co8) t107) ∧ Aside0 (Kd.R Kd.string 9 wc w.heap.size (fun k_ => some k_ ≠ ((.slice (some ad110) t107.length co8) : Value).ownBlock) (.slice (some ad120) x8_2.length co29) x8_2) ∧ Aside0 (Below w.heap.size w wc))
                          case first =>
                            have H := HC28.out
                            clear HC28
                            by_cases c30 : t121.toList = ([63] : List UInt8)
                            · rw [if_pos c30] at H
                              have c30b0 : (t121.toList == ([63] : List UInt8)) = true := beq_iff_eq.mpr c30
                              have c30b1 : (t121.toList != ([63] : List UInt8)) = false := bne_eq_false_iff_eq.mpr c30
                              clear c30
                              (first | rw [c30b0] | (simp only [i64_w, i32_w]; rw [c30b0]) | skip)
                              have H' := Aside0.mk H
                              clear H
                              go_wp2
                              go_meet
                              case rel => exact ⟨_, (false), (by first | rfl | (simp; done) | (simp [*]; done)), H', ⟨by have := HK1.out; have := HK2.out; have := HJ16.out; first | omega | exact Nat.le_refl _⟩, ⟨by (with_reducible repeat (first | apply Kd.S_alloc | apply Kd.S_drewN | apply Kd.S_drew)); exact HO_5.out⟩, ⟨by (with_reducible repeat (first | apply Kd.R_alloc | apply Kd.R_drewN | apply Kd.R_drew)); exact HO_6.out⟩, ⟨by (with_reducible repeat (first | apply Kd.R_alloc | apply Kd.R_drewN | apply Kd.R_drew)); exact HO_8.out⟩, ⟨by repeat (first | (with_reducible first | exact HB.out | apply below_alloc | apply pw_below_drewN | apply below_drew1) | exact HB.out)⟩⟩
                            · rw [if_neg c30] at H
                              have c30b0 : (t121.toList == ([63] : List UInt8)) = false := beq_eq_false_iff_ne.mpr c30
                              have c30b1 : (t121.toList != ([63] : List UInt8)) = true := bne_iff_ne.mpr c30
                              (first | rw [c30b0] | (simp only [i64_w, i32_w]; rw [c30b0]) | skip)
                              have H' := Aside0.mk H
                              clear H
                              go_wp2
                              go_meet
                              case rel => exact ⟨_, (((t121.size : Int) == (wrap64 ((x8_2.length : Int) - 1)))), (by first | rfl | (simp; done) | (simp [*]; done)), H', ⟨by have := HK1.out; have := HK2.out; have := HJ16.out; first | omega | exact Nat.le_refl _⟩, ⟨by (with_reducible repeat (first | apply Kd.S_alloc | apply Kd.S_drewN | apply Kd.S_drew)); exact HO_5.out⟩, ⟨by (with_reducible repeat (first | apply Kd.R_alloc | apply Kd.R_drewN | apply Kd.R_drew)); exact HO_6.out⟩, ⟨by (with_reducible repeat (first | apply Kd.R_alloc | apply Kd.R_drewN | apply Kd.R_drew)); exact HO_8.out⟩, ⟨by repeat (first | (with_reducible first | exact HB.out | apply below_alloc | apply pw_below_drewN | apply below_drew1) | exact HB.out)⟩⟩
                          case rest =>
                            clear HC28
                            try clear c1
                            try clear p1
                            try clear q1
                            try clear hx1
                            try clear qi1
                            try clear c2
                            try clear c2b0
                            try clear c2b1
                            try clear p2
                            try clear q2
                            try clear hx2
                            try clear qi2
                            try clear c3
                            try clear c5
                            try clear c5b0
                            try clear c6
                            try clear c6b0
                            try clear p6
                            try clear c7
                            try clear c8
                            try clear c10
                            try clear c10b0
                            try clear c11
                            try clear c11b0
                            try clear p11
                            try clear q11
                            try clear hx11
                            try clear qi11
                            try clear c12
                            try clear c12b0
                            try clear c12b1
                            try clear p12
                            try clear q12
                            try clear hx12
                            try clear qi12
                            try clear c14
                            try clear c19
                            try clear c19b0
                            try clear c19b1
                            try clear c19b2
                            try clear c21
                            try clear c21b0
                            try clear c21b1
                            try clear c22
                            try clear c22b0
                            try clear c22b1
                            try clear p23
                            try clear q23
                            try clear hx23
                            try clear qi23
                            try clear c25
                            try clear c26
                            try clear c26b0
                            try clear c26b1
                            try clear c30
                            try clear c30b0
                            try clear c30b1
                            try clear hx110_0
                            try clear hx114_0
                            try clear hx115_0
                            try clear hx119_0
                            try clear hx120_0
                            try clear p1
                            try clear p11
                            try clear p110
                            try clear p114
                            try clear p115
                            try clear p119
                            try clear p120
                            try clear p2
                            try clear p23
                            try clear p6
                            try clear q1
                            try clear q11
                            try clear q110
                            try clear q114
                            try clear q115
                            try clear q119
                            try clear q120
                            try clear q2
                            try clear q23
                            obtain ⟨kq, x12_27, rfl, HA, HJ27, HO_5, HO_6, HO_8, HB⟩ := hcut
                            cases kq with
                            | zero => exact absurd HA.out (by simp [caravellaw28_parse.j3])
                            | succ kj27 =>
                              have H := HA.out
                              clear HA
                              simp only [caravellaw28_parse.j3] at H
                              have H' := Aside0.mk H
                              clear H
                              go_wp2
                              go_loopg [12, 13] kj27 (fun kq v12 v13 w' => ∃ (x12_5 : Bool) (x13_5 : Int), v12 = .bool x12_5 ∧ v13 = .int .i64 x13_5 ∧ Aside0 (caravellaw28_parse.l2 kq x5_1 t107 x7_1 x8_2 t121 x12_5 x13_5 = some (r1, r2, r3)) ∧ Aside0 (kq ≤ kj27) ∧ Aside0 (Kd.S k31 31 w' w.heap.size (fun k_ => some k_ ≠ ((.slice (some ad110) t107.length co8) : Value).ownBlock ∧ some k_ ≠ ((.slice (some ad120) x8_2.length co29) : Value).ownBlock) u5 x5_1) ∧ Aside0 (Kd.R Kd.string 9 w' w.heap.size (fun k_ => some k_ ≠ ((.slice (some ad120) x8_2.length co29) : Value).ownBlock) (.slice (some ad110) t107.length co8) t107) ∧ Aside0 (Kd.R Kd.string 9 w' w.heap.size (fun k_ => some k_ ≠ ((.slice (some ad110) t107.length co8) : Value).ownBlock) (.slice (some ad120) x8_2.length co29) x8_2) ∧ Aside0 (Below w.heap.size w w'))
                              case atStart => exact ⟨(x12_27), (1), (by first | rfl | (simp; done) | (simp [*]; done)), (by first | rfl | (simp; done) | (simp [*]; done)), H', ⟨Nat.le_refl _⟩, ⟨by (with_reducible repeat (first | apply Kd.S_alloc | apply Kd.S_drewN | apply Kd.S_drew)); exact HO_5.out⟩, ⟨by (with_reducible repeat (first | apply Kd.R_alloc | apply Kd.R_drewN | apply Kd.R_drew)); exact HO_6.out⟩, ⟨by (with_reducible repeat (first | apply Kd.R_alloc | apply Kd.R_drewN | apply Kd.R_drew)); exact HO_8.out⟩, ⟨by repeat (first | (with_reducible first | exact HB.out | apply below_alloc | apply pw_below_drewN | apply below_drew1) | exact HB.out)⟩⟩
                              case round =>
                                clear H'
                                try clear c1
                                try clear p1
                                try clear q1
                                try clear hx1
                                try clear qi1
                                try clear c2
                                try clear c2b0
                                try clear c2b1
                                try clear p2
                                try clear q2
                                try clear hx2
                                try clear qi2
                                try clear c3
                                try clear c5
                                try clear c5b0
                                try clear c6
                                try clear c6b0
                                try clear p6
                                try clear c7
                                try clear c8
                                try clear c10
                                try clear c10b0
                                try clear c11
                                try clear c11b0
                                try clear p11
                                try clear q11
                                try clear hx11
                                try clear qi11
                                try clear c12
                                try clear c12b0
                                try clear c12b1
                                try clear p12
                                try clear q12
                                try clear hx12
                                try clear qi12
                                try clear c14
                                try clear c19
                                try clear c19b0
                                try clear c19b1
                                try clear c19b2
                                try clear c21
                                try clear c21b0
                                try clear c21b1
                                try clear c22
                                try clear c22b0
                                try clear c22b1
                                try clear p23
                                try clear q23
                                try clear hx23
                                try clear qi23
                                try clear c25
                                try clear c26
                                try clear c26b0
                                try clear c26b1
                                try clear c30
                                try clear c30b0
                                try clear c30b1
                                try clear hx110_0
                                try clear hx114_0
                                try clear hx115_0
                                try clear hx119_0
                                try clear hx120_0
                                try clear p1
                                try clear p11
                                try clear p110
                                try clear p114
                                try clear p115
                                try clear p119
                                try clear p12
                                try clear p120
                                try clear p2
                                try clear p23
                                try clear p6
                                try clear q1
                                try clear q11
                                try clear q110
                                try clear q114
                                try clear q115
                                try clear q119
                                try clear q12
                                try clear q120
                                try clear q2
                                try clear q23
                                obtain ⟨x12_5, x13_5, rfl, rfl, HA, HK5, HO_5, HO_6, HO_8, HB⟩ := hrel
                                cases gk with
                                | zero => exact absurd HA.out (by simp [caravellaw28_parse.l2])
                                | succ k5 =>
                                  have H := HA.out
                                  clear HA
                                  simp only [caravellaw28_parse.l2] at H
                                  have HC31 := Aside0.mk H
                                  clear H
                                  go_upto_region 19 with (fail)
                                  go_cut [78] (fun v78 wc => ∃ (kq : Nat) (x78_30 : Bool), v78 = .bool x78_30 ∧ Aside0 (caravellaw28_parse.j5 kq x5_1 t107 x7_1 x8_2 t121 x12_5 x13_5 x78_30 = some (r1, r2, r3)) ∧ Aside0 (kq ≤ k5) ∧ Aside0 (Kd.S k31 31 wc w.heap.size (fun k_ => some k_ ≠ ((.slice (some ad110) t107.length co8) : Value).ownBlock ∧ some k_ ≠ ((.slice (some ad120) x8_2.length co29) : Value).ownBlock) u5 x5_1) ∧ Aside0 (Kd.R Kd.string 9 wc w.heap.size (fun k_ => some k_ ≠ ((.slice (some ad120) x8_2.length co29) : Value).ownBlock) (.slice (some ad110) t107.length co8) t107) ∧ Aside0 (Kd.R Kd.string 9 wc w.heap.size (fun k_ => some k_ ≠ ((.slice (some ad110) t107.length co8) : Value).ownBlock) (.slice (some ad120) x8_2.length co29) x8_2) ∧ Aside0 (Below w.heap.size w wc))
                                  case first =>
                                    have H := HC31.out
                                    clear HC31
                                    by_cases c32 : x12_5 = true
                                    · subst c32
                                      have H1 : (caravellaw28_parse.j5 k5 x5_1 t107 x7_1 x8_2 t121 true x13_5 (decide (x13_5 < (x8_2.length : Int)))) = some (r1, r2, r3) := by rw [if_pos rfl] at H; exact H
                                      clear H
                                      have H := H1
                                      clear H1
                                      have H' := Aside0.mk H
                                      clear H
                                      go_wp2
                                      go_meet
                                      case rel => exact ⟨_, (decide (x13_5 < (x8_2.length : Int))), (by first | rfl | (simp; done) | (simp [*]; done)), H', ⟨by have := HK1.out; have := HK2.out; have := HJ16.out; have := HJ27.out; have := HK5.out; first | omega | exact Nat.le_refl _⟩, ⟨by (with_reducible repeat (first | apply Kd.S_alloc | apply Kd.S_drewN | apply Kd.S_drew)); exact HO_5.out⟩, ⟨by (with_reducible repeat (first | apply Kd.R_alloc | apply Kd.R_drewN | apply Kd.R_drew)); exact HO_6.out⟩, ⟨by (with_reducible repeat (first | apply Kd.R_alloc | apply Kd.R_drewN | apply Kd.R_drew)); exact HO_8.out⟩, ⟨by repeat (first | (with_reducible first | exact HB.out | apply below_alloc | apply pw_below_drewN | apply below_drew1) | exact HB.out)⟩⟩
                                    · replace c32 := Bool.eq_false_iff.mpr c32
                                      subst c32
                                      have H1 : (caravellaw28_parse.j5 k5 x5_1 t107 x7_1 x8_2 t121 false x13_5 false) = some (r1, r2, r3) := by rw [if_neg (show ¬ (false = true) by decide)] at H; exact H
                                      clear H
                                      have H := H1
                                      clear H1
                                      have H' := Aside0.mk H
                                      clear H
                                      go_wp2
                                      go_meet
                                      case rel => exact ⟨_, (false), (by first | rfl | (simp; done) | (simp [*]; done)), H', ⟨by have := HK1.out; have := HK2.out; have := HJ16.out; have := HJ27.out; have := HK5.out; first | omega | exact Nat.le_refl _⟩, ⟨by (with_reducible repeat (first | apply Kd.S_alloc | apply Kd.S_drewN | apply Kd.S_drew)); exact HO_5.out⟩, ⟨by (with_reducible repeat (first | apply Kd.R_alloc | apply Kd.R_drewN | apply Kd.R_drew)); exact HO_6.out⟩, ⟨by (with_reducible repeat (first | apply Kd.R_alloc | apply Kd.R_drewN | apply Kd.R_drew)); exact HO_8.out⟩, ⟨by repeat (first | (with_reducible first | exact HB.out | apply below_alloc | apply pw_below_drewN | apply below_drew1) | exact HB.out)⟩⟩
                                  case rest =>
                                    clear HC31
                                    try clear c1
                                    try clear p1
                                    try clear q1
                                    try clear hx1
                                    try clear qi1
                                    try clear c2
                                    try clear c2b0
                                    try clear c2b1
                                    try clear p2
                                    try clear q2
                                    try clear hx2
                                    try clear qi2
                                    try clear c3
                                    try clear c5
                                    try clear c5b0
                                    try clear c6
                                    try clear c6b0
                                    try clear p6
                                    try clear c7
                                    try clear c8
                                    try clear c10
                                    try clear c10b0
                                    try clear c11
                                    try clear c11b0
                                    try clear p11
                                    try clear q11
                                    try clear hx11
                                    try clear qi11
                                    try clear c12
                                    try clear c12b0
                                    try clear c12b1
                                    try clear p12
                                    try clear q12
                                    try clear hx12
                                    try clear qi12
                                    try clear c14
                                    try clear c19
                                    try clear c19b0
                                    try clear c19b1
                                    try clear c19b2
                                    try clear c21
                                    try clear c21b0
                                    try clear c21b1
                                    try clear c22
                                    try clear c22b0
                                    try clear c22b1
                                    try clear p23
                                    try clear q23
                                    try clear hx23
                                    try clear qi23
                                    try clear c25
                                    try clear c26
                                    try clear c26b0
                                    try clear c26b1
                                    try clear c30
                                    try clear c30b0
                                    try clear c30b1
                                    try clear c32
                                    try clear hx110_0
                                    try clear hx114_0
                                    try clear hx115_0
                                    try clear hx119_0
                                    try clear hx120_0
                                    try clear p1
                                    try clear p11
                                    try clear p110
                                    try clear p114
                                    try clear p115
                                    try clear p119
                                    try clear p12
                                    try clear p120
                                    try clear p2
                                    try clear p23
                                    try clear p6
                                    try clear q1
                                    try clear q11
                                    try clear q110
                                    try clear q114
                                    try clear q115
                                    try clear q119
                                    try clear q12
                                    try clear q120
                                    try clear q2
                                    try clear q23
                                    obtain ⟨kq, x78_30, rfl, HA, HJ30, HO_5, HO_6, HO_8, HB⟩ := hcut
                                    cases kq with
                                    | zero => exact absurd HA.out (by simp [caravellaw28_parse.j5])
                                    | succ kj30 =>
                                      have H := HA.out
                                      clear HA
                                      simp only [caravellaw28_parse.j5] at H
                                      by_cases c33 : x78_30 = true
                                      · subst c33
                                        have H1 : (if 0 ≤ (wrap64 (x13_5 - 1)) then (if (wrap64 (x13_5 - 1)) < (t121.size : Int) then (if (bt t121 (wrap64 (x13_5 - 1))) = 110 then (if 0 ≤ x13_5 then (if x13_5 < (x8_2.length : Int) then ((caravellaw28_digits.f kj30 (rdOf ByteArray.empty x8_2 x13_5)).bind fun t123 => (if t123 = true then (caravellaw28_parse.l2 kj30 x5_1 t107 x7_1 x8_2 t121 true (wrap64 (x13_5 + 1))) else (if (bt t121 (wrap64 (x13_5 - 1))) = 116 then ((caravellaw28_text.f kj30 (rdOf ByteArray.empty x8_2 x13_5)).bind fun t125 => (caravellaw28_parse.l2 kj30 x5_1 t107 x7_1 x8_2 t121 t125 (wrap64 (x13_5 + 1)))) else (caravellaw28_parse.l2 kj30 x5_1 t107 x7_1 x8_2 t121 false (wrap64 (x13_5 + 1)))))) else (none)) else (none)) else (if (bt t121 (wrap64 (x13_5 - 1))) = 116 then (if 0 ≤ x13_5 then (if x13_5 < (x8_2.length : Int) then ((caravellaw28_text.f kj30 (rdOf ByteArray.empty x8_2 x13_5)).bind fun t127 => (caravellaw28_parse.l2 kj30 x5_1 t107 x7_1 x8_2 t121 t127 (wrap64 (x13_5 + 1)))) else (none)) else (none)) else (caravellaw28_parse.l2 kj30 x5_1 t107 x7_1 x8_2 t121 false (wrap64 (x13_5 + 1))))) else (none)) else (none)) = some (r1, r2, r3) := by rw [if_pos rfl] at H; exact H
                                        clear H
                                        have H := H1
                                        clear H1
                                        obtain ⟨ji34, hji34⟩ : ∃ j_ : Int, (wrap64 (x13_5 - 1)) = j_ := ⟨_, rfl⟩
                                        replace H : (if 0 ≤ (ji34) then (if (ji34) < (t121.size : Int) then (if (bt t121 (ji34)) = 110 then (if 0 ≤ x13_5 then (if x13_5 < (x8_2.length : Int) then ((caravellaw28_digits.f kj30 (rdOf ByteArray.empty x8_2 x13_5)).bind fun t123 => (if t123 = true then (caravellaw28_parse.l2 kj30 x5_1 t107 x7_1 x8_2 t121 true (wrap64 (x13_5 + 1))) else (if (bt t121 (ji34)) = 116 then ((caravellaw28_text.f kj30 (rdOf ByteArray.empty x8_2 x13_5)).bind fun t125 => (caravellaw28_parse.l2 kj30 x5_1 t107 x7_1 x8_2 t121 t125 (wrap64 (x13_5 + 1)))) else (caravellaw28_parse.l2 kj30 x5_1 t107 x7_1 x8_2 t121 false (wrap64 (x13_5 + 1)))))) else (none)) else (none)) else (if (bt t121 (ji34)) = 116 then (if 0 ≤ x13_5 then (if x13_5 < (x8_2.length : Int) then ((caravellaw28_text.f kj30 (rdOf ByteArray.empty x8_2 x13_5)).bind fun t127 => (caravellaw28_parse.l2 kj30 x5_1 t107 x7_1 x8_2 t121 t127 (wrap64 (x13_5 + 1)))) else (none)) else (none)) else (caravellaw28_parse.l2 kj30 x5_1 t107 x7_1 x8_2 t121 false (wrap64 (x13_5 + 1))))) else (none)) else (none)) = some (r1, r2, r3) := by first | (rw [hji34] at H; exact H) | (simp only [hji34] at H ⊢; exact H)
                                        have hji34w : (IntKind.i64.wrap (x13_5 - 1)) = ji34 := (i64_w _).trans hji34
                                        by_cases c35 : 0 ≤ (ji34)
                                        · rw [if_pos c35] at H
                                          have c35b0 : decide (0 ≤ (ji34)) = true := decide_eq_true c35
                                          clear c35
                                          by_cases c36 : (ji34) < (t121.size : Int)
                                          · rw [if_pos c36] at H
                                            have c36b0 : decide ((ji34) < (t121.size : Int)) = true := decide_eq_true c36
                                            clear c36
                                            by_cases c38 : (bt t121 (ji34)) = 110
                                            · rw [if_pos c38] at H
                                              have c38b0 : ((bt t121 (ji34)) == 110) = true := beq_iff_eq.mpr c38
                                              have c38b1 : ((bt t121 (ji34)) != 110) = false := bne_eq_false_iff_eq.mpr c38
                                              clear c38
                                              by_cases c39 : 0 ≤ x13_5
                                              · rw [if_pos c39] at H
                                                have c39b0 : decide (0 ≤ x13_5) = true := decide_eq_true c39
                                                clear c39
                                                by_cases c40 : x13_5 < (x8_2.length : Int)
                                                · rw [if_pos c40] at H
                                                  have c40b0 : decide (x13_5 < (x8_2.length : Int)) = true := decide_eq_true c40
                                                  clear c40
                                                  replace H := Option.bind_eq_some_iff.mp H
                                                  obtain ⟨t123, A410, H⟩ := H
                                                  replace H : (if t123 = true then (caravellaw28_parse.l2 kj30 x5_1 t107 x7_1 x8_2 t121 true (wrap64 (x13_5 + 1))) else (if (bt t121 (ji34)) = 116 then ((caravellaw28_text.f kj30 (rdOf ByteArray.empty x8_2 x13_5)).bind fun t125 => (caravellaw28_parse.l2 kj30 x5_1 t107 x7_1 x8_2 t121 t125 (wrap64 (x13_5 + 1)))) else (caravellaw28_parse.l2 kj30 x5_1 t107 x7_1 x8_2 t121 false (wrap64 (x13_5 + 1))))) = some (r1, r2, r3) := H
                                                  have A41 := Aside0.mk A410
                                                  clear A410
                                                  by_cases c42 : t123 = true
                                                  · subst c42
                                                    have H1 : (caravellaw28_parse.l2 kj30 x5_1 t107 x7_1 x8_2 t121 true (wrap64 (x13_5 + 1))) = some (r1, r2, r3) := by rw [if_pos rfl] at H; exact H
                                                    clear H
                                                    have H := H1
                                                    clear H1
                                                    have H' := Aside0.mk H
                                                    clear H
                                                    have p37 : 0 ≤ ((ji34) : Int) := of_decide_eq_true (by first | (with_reducible assumption) | assumption)
                                                    have q37 : (ji34) < (t121.size : Int) := of_decide_eq_true (by first | (with_reducible assumption) | assumption)
                                                    have hx37 := bt_at t121 (ji34)
                                                    replace p37 := eq_true p37
                                                    replace q37 := eq_true q37
                                                    have p122 : 0 ≤ (x13_5 : Int) := of_decide_eq_true (by first | (with_reducible assumption) | assumption)
                                                    have q122 : x13_5 < (x8_2.length : Int) := of_decide_eq_true (by first | (with_reducible assumption) | assumption)
                                                    obtain ⟨ad122, e122, hx122_0⟩ := Kd.at_string (Kd.R_reads' HO_8.out).2.2 x13_5 p122 q122
                                                    obtain rfl : ad120 = ad122 := (by injection e122)
                                                    replace p122 := eq_true p122
                                                    replace q122 := eq_true q122
                                                    go_wp2_with (first | (go_at_call 9; (with_reducible refine (caravellaw28_digits.calls kj30 (rdOf ByteArray.empty x8_2 x13_5) true _ A41.out).mono ?_); rintro e w' ⟨rfl, ⟨nd, rfl⟩⟩))
                                                    go_roundg kj30
                                                    case measure => have := HK1.out; have := HK2.out; have := HJ16.out; have := HJ27.out; have := HK5.out; have := HJ30.out; omega
                                                    case rel => exact ⟨(true), (wrap64 (x13_5 + 1)), (by first | rfl | (simp; done) | (simp [*]; done)), (by first | rfl | (simp; done) | (simp [*]; done)), H', ⟨by have := HK1.out; have := HK2.out; have := HJ16.out; have := HJ27.out; have := HK5.out; have := HJ30.out; omega⟩, ⟨by (with_reducible repeat (first | apply Kd.S_alloc | apply Kd.S_drewN | apply Kd.S_drew)); exact HO_5.out⟩, ⟨by (with_reducible repeat (first | apply Kd.R_alloc | apply Kd.R_drewN | apply Kd.R_drew)); exact HO_6.out⟩, ⟨by (with_reducible repeat (first | apply Kd.R_alloc | apply Kd.R_drewN | apply Kd.R_drew)); exact HO_8.out⟩, ⟨by repeat (first | (with_reducible first | exact HB.out | apply below_alloc | apply pw_below_drewN | apply below_drew1) | exact HB.out)⟩⟩
                                                  · replace c42 := Bool.eq_false_iff.mpr c42
                                                    subst c42
                                                    have H1 : (if (bt t121 (ji34)) = 116 then ((caravellaw28_text.f kj30 (rdOf ByteArray.empty x8_2 x13_5)).bind fun t125 => (caravellaw28_parse.l2 kj30 x5_1 t107 x7_1 x8_2 t121 t125 (wrap64 (x13_5 + 1)))) else (caravellaw28_parse.l2 kj30 x5_1 t107 x7_1 x8_2 t121 false (wrap64 (x13_5 + 1)))) = some (r1, r2, r3) := by rw [if_neg (show ¬ (false = true) by decide)] at H; exact H
                                                    clear H
                                                    have H := H1
                                                    clear H1
                                                    by_cases c44 : (bt t121 (ji34)) = 116
                                                    · rw [if_pos c44] at H
                                                      have c44b0 : ((bt t121 (ji34)) == 116) = true := beq_iff_eq.mpr c44
                                                      have c44b1 : ((bt t121 (ji34)) != 116) = false := bne_eq_false_iff_eq.mpr c44
                                                      clear c44
                                                      replace H := Option.bind_eq_some_iff.mp H
                                                      obtain ⟨t125, A450, H⟩ := H
                                                      replace H : (caravellaw28_parse.l2 kj30 x5_1 t107 x7_1 x8_2 t121 t125 (wrap64 (x13_5 + 1))) = some (r1, r2, r3) := H
                                                      have A45 := Aside0.mk A450
                                                      clear A450
                                                      have H' := Aside0.mk H
                                                      clear H
                                                      have p37 : 0 ≤ ((ji34) : Int) := of_decide_eq_true (by first | (with_reducible assumption) | assumption)
                                                      have q37 : (ji34) < (t121.size : Int) := of_decide_eq_true (by first | (with_reducible assumption) | assumption)
                                                      have hx37 := bt_at t121 (ji34)
                                                      replace p37 := eq_true p37
                                                      replace q37 := eq_true q37
                                                      have p122 : 0 ≤ (x13_5 : Int) := of_decide_eq_true (by first | (with_reducible assumption) | assumption)
                                                      have q122 : x13_5 < (x8_2.length : Int) := of_decide_eq_true (by first | (with_reducible assumption) | assumption)
                                                      obtain ⟨ad122, e122, hx122_0⟩ := Kd.at_string (Kd.R_reads' HO_8.out).2.2 x13_5 p122 q122
                                                      obtain rfl : ad120 = ad122 := (by injection e122)
                                                      replace p122 := eq_true p122
                                                      replace q122 := eq_true q122
                                                      go_wp2_with (first | (go_at_call 9; (with_reducible refine (caravellaw28_digits.calls kj30 (rdOf ByteArray.empty x8_2 x13_5) false _ A41.out).mono ?_); rintro e w' ⟨rfl, ⟨nd, rfl⟩⟩; have p43 : 0 ≤ ((ji34) : Int) := of_decide_eq_true (by first | (with_reducible assumption) | assumption); have q43 : (ji34) < (t121.size : Int) := of_decide_eq_true (by first | (with_reducible assumption) | assumption); have hx43 := bt_at t121 (ji34); replace p43 := eq_true p43; replace q43 := eq_true q43; have p124 : 0 ≤ (x13_5 : Int) := of_decide_eq_true (by first | (with_reducible assumption) | assumption); have q124 : x13_5 < (x8_2.length : Int) := of_decide_eq_true (by first | (with_reducible assumption) | assumption); obtain ⟨ad124, e124, hx124_0⟩ := Kd.at_string (Kd.R_reads' HO_8.out).2.2 x13_5 p124 q124; obtain rfl : ad120 = ad124 := (by injection e124); replace p124 := eq_true p124; replace q124 := eq_true q124) | (go_at_call 10; (with_reducible refine (caravellaw28_text.calls kj30 (rdOf ByteArray.empty x8_2 x13_5) t125 _ A45.out).mono ?_); rintro e w' ⟨rfl, ⟨nd, rfl⟩⟩))
                                                      go_roundg kj30
                                                      case measure => have := HK1.out; have := HK2.out; have := HJ16.out; have := HJ27.out; have := HK5.out; have := HJ30.out; omega
                                                      case rel => exact ⟨(t125), (wrap64 (x13_5 + 1)), (by first | rfl | (simp; done) | (simp [*]; done)), (by first | rfl | (simp; done) | (simp [*]; done)), H', ⟨by have := HK1.out; have := HK2.out; have := HJ16.out; have := HJ27.out; have := HK5.out; have := HJ30.out; omega⟩, ⟨by (with_reducible repeat (first | apply Kd.S_alloc | apply Kd.S_drewN | apply Kd.S_drew)); exact HO_5.out⟩, ⟨by (with_reducible repeat (first | apply Kd.R_alloc | apply Kd.R_drewN | apply Kd.R_drew)); exact HO_6.out⟩, ⟨by (with_reducible repeat (first | apply Kd.R_alloc | apply Kd.R_drewN | apply Kd.R_drew)); exact HO_8.out⟩, ⟨by repeat (first | (with_reducible first | exact HB.out | apply below_alloc | apply pw_below_drewN | apply below_drew1) | exact HB.out)⟩⟩
                                                    · rw [if_neg c44] at H
                                                      have c44b0 : ((bt t121 (ji34)) == 116) = false := beq_eq_false_iff_ne.mpr c44
                                                      have c44b1 : ((bt t121 (ji34)) != 116) = true := bne_iff_ne.mpr c44
                                                      have H' := Aside0.mk H
                                                      clear H
                                                      have p37 : 0 ≤ ((ji34) : Int) := of_decide_eq_true (by first | (with_reducible assumption) | assumption)
                                                      have q37 : (ji34) < (t121.size : Int) := of_decide_eq_true (by first | (with_reducible assumption) | assumption)
                                                      have hx37 := bt_at t121 (ji34)
                                                      replace p37 := eq_true p37
                                                      replace q37 := eq_true q37
                                                      have p122 : 0 ≤ (x13_5 : Int) := of_decide_eq_true (by first | (with_reducible assumption) | assumption)
                                                      have q122 : x13_5 < (x8_2.length : Int) := of_decide_eq_true (by first | (with_reducible assumption) | assumption)
                                                      obtain ⟨ad122, e122, hx122_0⟩ := Kd.at_string (Kd.R_reads' HO_8.out).2.2 x13_5 p122 q122
                                                      obtain rfl : ad120 = ad122 := (by injection e122)
                                                      replace p122 := eq_true p122
                                                      replace q122 := eq_true q122
                                                      go_wp2_with (first | (go_at_call 9; (with_reducible refine (caravellaw28_digits.calls kj30 (rdOf ByteArray.empty x8_2 x13_5) false _ A41.out).mono ?_); rintro e w' ⟨rfl, ⟨nd, rfl⟩⟩; have p43 : 0 ≤ ((ji34) : Int) := of_decide_eq_true (by first | (with_reducible assumption) | assumption); have q43 : (ji34) < (t121.size : Int) := of_decide_eq_true (by first | (with_reducible assumption) | assumption); have hx43 := bt_at t121 (ji34); replace p43 := eq_true p43; replace q43 := eq_true q43))
                                                      go_roundg kj30
                                                      case measure => have := HK1.out; have := HK2.out; have := HJ16.out; have := HJ27.out; have := HK5.out; have := HJ30.out; omega
                                                      case rel => exact ⟨(false), (wrap64 (x13_5 + 1)), (by first | rfl | (simp; done) | (simp [*]; done)), (by first | rfl | (simp; done) | (simp [*]; done)), H', ⟨by have := HK1.out; have := HK2.out; have := HJ16.out; have := HJ27.out; have := HK5.out; have := HJ30.out; omega⟩, ⟨by (with_reducible repeat (first | apply Kd.S_alloc | apply Kd.S_drewN | apply Kd.S_drew)); exact HO_5.out⟩, ⟨by (with_reducible repeat (first | apply Kd.R_alloc | apply Kd.R_drewN | apply Kd.R_drew)); exact HO_6.out⟩, ⟨by (with_reducible repeat (first | apply Kd.R_alloc | apply Kd.R_drewN | apply Kd.R_drew)); exact HO_8.out⟩, ⟨by repeat (first | (with_reducible first | exact HB.out | apply below_alloc | apply pw_below_drewN | apply below_drew1) | exact HB.out)⟩⟩
                                                · rw [if_neg c40] at H
                                                  exact absurd H (by simp)
                                              · rw [if_neg c39] at H
                                                exact absurd H (by simp)
                                            · rw [if_neg c38] at H
                                              have c38b0 : ((bt t121 (ji34)) == 110) = false := beq_eq_false_iff_ne.mpr c38
                                              have c38b1 : ((bt t121 (ji34)) != 110) = true := bne_iff_ne.mpr c38
                                              by_cases c47 : (bt t121 (ji34)) = 116
                                              · rw [if_pos c47] at H
                                                have c47b0 : ((bt t121 (ji34)) == 116) = true := beq_iff_eq.mpr c47
                                                have c47b1 : ((bt t121 (ji34)) != 116) = false := bne_eq_false_iff_eq.mpr c47
                                                clear c47
                                                by_cases c48 : 0 ≤ x13_5
                                                · rw [if_pos c48] at H
                                                  have c48b0 : decide (0 ≤ x13_5) = true := decide_eq_true c48
                                                  clear c48
                                                  by_cases c49 : x13_5 < (x8_2.length : Int)
                                                  · rw [if_pos c49] at H
                                                    have c49b0 : decide (x13_5 < (x8_2.length : Int)) = true := decide_eq_true c49
                                                    clear c49
                                                    replace H := Option.bind_eq_some_iff.mp H
                                                    obtain ⟨t127, A500, H⟩ := H
                                                    replace H : (caravellaw28_parse.l2 kj30 x5_1 t107 x7_1 x8_2 t121 t127 (wrap64 (x13_5 + 1))) = some (r1, r2, r3) := H
                                                    have A50 := Aside0.mk A500
                                                    clear A500
                                                    have H' := Aside0.mk H
                                                    clear H
                                                    have p37 : 0 ≤ ((ji34) : Int) := of_decide_eq_true (by first | (with_reducible assumption) | assumption)
                                                    have q37 : (ji34) < (t121.size : Int) := of_decide_eq_true (by first | (with_reducible assumption) | assumption)
                                                    have hx37 := bt_at t121 (ji34)
                                                    replace p37 := eq_true p37
                                                    replace q37 := eq_true q37
                                                    have p46 : 0 ≤ ((ji34) : Int) := of_decide_eq_true (by first | (with_reducible assumption) | assumption)
                                                    have q46 : (ji34) < (t121.size : Int) := of_decide_eq_true (by first | (with_reducible assumption) | assumption)
                                                    have hx46 := bt_at t121 (ji34)
                                                    replace p46 := eq_true p46
                                                    replace q46 := eq_true q46
                                                    have p126 : 0 ≤ (x13_5 : Int) := of_decide_eq_true (by first | (with_reducible assumption) | assumption)
                                                    have q126 : x13_5 < (x8_2.length : Int) := of_decide_eq_true (by first | (with_reducible assumption) | assumption)
                                                    obtain ⟨ad126, e126, hx126_0⟩ := Kd.at_string (Kd.R_reads' HO_8.out).2.2 x13_5 p126 q126
                                                    obtain rfl : ad120 = ad126 := (by injection e126)
                                                    replace p126 := eq_true p126
                                                    replace q126 := eq_true q126
                                                    go_wp2_with (first | (go_at_call 10; (with_reducible refine (caravellaw28_text.calls kj30 (rdOf ByteArray.empty x8_2 x13_5) t127 _ A50.out).mono ?_); rintro e w' ⟨rfl, ⟨nd, rfl⟩⟩))
                                                    go_roundg kj30
                                                    case measure => have := HK1.out; have := HK2.out; have := HJ16.out; have := HJ27.out; have := HK5.out; have := HJ30.out; omega
                                                    case rel => exact ⟨(t127), (wrap64 (x13_5 + 1)), (by first | rfl | (simp; done) | (simp [*]; done)), (by first | rfl | (simp; done) | (simp [*]; done)), H', ⟨by have := HK1.out; have := HK2.out; have := HJ16.out; have := HJ27.out; have := HK5.out; have := HJ30.out; omega⟩, ⟨by (with_reducible repeat (first | apply Kd.S_alloc | apply Kd.S_drewN | apply Kd.S_drew)); exact HO_5.out⟩, ⟨by (with_reducible repeat (first | apply Kd.R_alloc | apply Kd.R_drewN | apply Kd.R_drew)); exact HO_6.out⟩, ⟨by (with_reducible repeat (first | apply Kd.R_alloc | apply Kd.R_drewN | apply Kd.R_drew)); exact HO_8.out⟩, ⟨by repeat (first | (with_reducible first | exact HB.out | apply below_alloc | apply pw_below_drewN | apply below_drew1) | exact HB.out)⟩⟩
                                                  · rw [if_neg c49] at H
                                                    exact absurd H (by simp)
                                                · rw [if_neg c48] at H
                                                  exact absurd H (by simp)
                                              · rw [if_neg c47] at H
                                                have c47b0 : ((bt t121 (ji34)) == 116) = false := beq_eq_false_iff_ne.mpr c47
                                                have c47b1 : ((bt t121 (ji34)) != 116) = true := bne_iff_ne.mpr c47
                                                have H' := Aside0.mk H
                                                clear H
                                                have p37 : 0 ≤ ((ji34) : Int) := of_decide_eq_true (by first | (with_reducible assumption) | assumption)
                                                have q37 : (ji34) < (t121.size : Int) := of_decide_eq_true (by first | (with_reducible assumption) | assumption)
                                                have hx37 := bt_at t121 (ji34)
                                                replace p37 := eq_true p37
                                                replace q37 := eq_true q37
                                                have p46 : 0 ≤ ((ji34) : Int) := of_decide_eq_true (by first | (with_reducible assumption) | assumption)
                                                have q46 : (ji34) < (t121.size : Int) := of_decide_eq_true (by first | (with_reducible assumption) | assumption)
                                                have hx46 := bt_at t121 (ji34)
                                                replace p46 := eq_true p46
                                                replace q46 := eq_true q46
                                                go_wp2
                                                go_roundg kj30
                                                case measure => have := HK1.out; have := HK2.out; have := HJ16.out; have := HJ27.out; have := HK5.out; have := HJ30.out; omega
                                                case rel => exact ⟨(false), (wrap64 (x13_5 + 1)), (by first | rfl | (simp; done) | (simp [*]; done)), (by first | rfl | (simp; done) | (simp [*]; done)), H', ⟨by have := HK1.out; have := HK2.out; have := HJ16.out; have := HJ27.out; have := HK5.out; have := HJ30.out; omega⟩, ⟨by (with_reducible repeat (first | apply Kd.S_alloc | apply Kd.S_drewN | apply Kd.S_drew)); exact HO_5.out⟩, ⟨by (with_reducible repeat (first | apply Kd.R_alloc | apply Kd.R_drewN | apply Kd.R_drew)); exact HO_6.out⟩, ⟨by (with_reducible repeat (first | apply Kd.R_alloc | apply Kd.R_drewN | apply Kd.R_drew)); exact HO_8.out⟩, ⟨by repeat (first | (with_reducible first | exact HB.out | apply below_alloc | apply pw_below_drewN | apply below_drew1) | exact HB.out)⟩⟩
                                          · rw [if_neg c36] at H
                                            exact absurd H (by simp)
                                        · rw [if_neg c35] at H
                                          exact absurd H (by simp)
                                      · replace c33 := Bool.eq_false_iff.mpr c33
                                        subst c33
                                        have H1 : (if x12_5 = true then (if x5_1.length < 4398046511104 then (caravellaw28_parse.l0 kj30 (x5_1 ++ [(⟨x7_1, x8_2⟩ : S31)]) t107 (wrap64 (x7_1 + 1))) else (none)) else (some (([] : List (S31)), x7_1, 50))) = some (r1, r2, r3) := by rw [if_neg (show ¬ (false = true) by decide)] at H; exact H
                                        clear H
                                        have H := H1
                                        clear H1
                                        by_cases c51 : x12_5 = true
                                        · subst c51
                                          have H1 : (if x5_1.length < 4398046511104 then (caravellaw28_parse.l0 kj30 (x5_1 ++ [(⟨x7_1, x8_2⟩ : S31)]) t107 (wrap64 (x7_1 + 1))) else (none)) = some (r1, r2, r3) := by rw [if_pos rfl] at H; exact H
                                          clear H
                                          have H := H1
                                          clear H1
                                          by_cases c52 : x5_1.length < 4398046511104
                                          · rw [if_pos c52] at H
                                            have LMc52 := Aside0.mk c52
                                            clear c52
                                            obtain ⟨y128, hy128⟩ : ∃ y_ : List (S31), y_ = (x5_1 ++ [(⟨x7_1, x8_2⟩ : S31)]) := ⟨_, rfl⟩
                                            replace H : (caravellaw28_parse.l0 kj30 y128 t107 (wrap64 (x7_1 + 1))) = some (r1, r2, r3) := by first | (rw [hy128]; with_reducible exact H) | (have H2_ := (Option.bind_some _ _).symm.trans H; rw [hy128]; with_reducible exact H2_) | (have H2_ := (Option.bind_some _ _).symm.trans H; with_reducible exact H2_) | with_reducible exact H | (rw [hy128]; exact H) | exact H
                                            have Ny128 := Aside0.mk hy128
                                            clear hy128
                                            have H' := Aside0.mk H
                                            clear H
                                            go_wp2_with (first | ((with_reducible refine gate_builtin (b := .append) (xs := #[.tmp 110, .tmp 114]) rfl ?_); (try (refine gate_guard (by rfl) ?_; dsimp only)); at_builtin; refine Kd.S_append k31 (w0 := w) w.heap.size rfl (.tmp 110) (.tmp 114) 26 31 (.agg #[(.int .i64 0), (.slice none 0 0)]) 32 rfl Tryd.underlying26 info31 rfl (by decide) (by omega) u5 x5_1 (⟨x7_1, x8_2⟩ : S31) [.int .i64 x7_1, .slice (some ad120) x8_2.length co29] (fun k_ => some k_ ≠ (.slice (some ad110) t107.length co8 : Value).ownBlock) (fun k_ => some k_ = (.slice (some ad120) x8_2.length co29 : Value).ownBlock) rfl rfl ?aP (fun k_ hk_ => ((Kd.R_mono (ok' := fun k_ => ((fun k_ => some k_ ≠ (.slice (some ad110) t107.length co8 : Value).ownBlock)) k_ ∧ some k_ ≠ (u5 : Value).ownBlock) (Kd.R_apart' (HO_8.out) (Kd.S_typed HO_5.out) (by decide)) (fun k_ hk => ⟨hk.1, hk.2⟩))).1 k_ hk_.symm) ?aF ?aO ?aB ?aS ?aL ?_; (case aP => exact k31_mkM _ _ _ (⟨x7_1, x8_2⟩ : S31) (Kd.R_mono (Kd.R_tight rfl (Kd.R_mono (ok' := fun k_ => ((fun k_ => some k_ ≠ (.slice (some ad110) t107.length co8 : Value).ownBlock)) k_ ∧ some k_ ≠ (u5 : Value).ownBlock) (Kd.R_apart' (HO_8.out) (Kd.S_typed HO_5.out) (by decide)) (fun k_ hk => ⟨hk.1, hk.2⟩))) (fun _ h_ => h_))); (case aB => exact (by repeat (first | (with_reducible first | exact HB.out | apply below_alloc | apply pw_below_drewN | apply below_drew1) | exact HB.out))); (case aF => exact (fun k_ hk => Kd.fresh' (Kd.R_lt (by (with_reducible repeat (first | apply Kd.R_alloc | apply Kd.R_drewN | apply Kd.R_drew)); exact HO_6.out)) k_ hk)); (case aO => exact (by (with_reducible repeat (first | apply Kd.S_alloc | apply Kd.S_drewN | apply Kd.S_drew)); exact Kd.S_mono HO_5.out (fun k_ hk => ⟨hk.1, fun e_ => hk.2 e_⟩))); (case aS => exact (below_size (by repeat (first | (with_reducible first | exact HB.out | apply below_alloc | apply pw_below_drewN | apply below_drew1) | exact HB.out)))); (case aL => have := LMc52.out; omega); intro v129 w53 ho hb hg hat; rw [← Ny128.out] at ho; have n0_ := Aside0.mk (Kd.R_over' (by (with_reducible repeat (first | apply Kd.R_alloc | apply Kd.R_drewN | apply Kd.R_drew)); exact HO_6.out) (Kd.S_typed (by (with_reducible repeat (first | apply Kd.S_alloc | apply Kd.S_drewN | apply Kd.S_drew)); exact HO_5.out)) (by decide) hg); have n1_ := Aside0.mk (hb); have n2_ := Aside0.mk (ho); clear HO_6; clear HB; clear HO_5; clear HO_8; have HO_6 := n0_; have HB := n1_; have HO130 := n2_; clear n0_ n1_ n2_; clear ho hb hg hat))
                                            go_roundg kj30
                                            case measure => have := HK1.out; have := HK2.out; have := HJ16.out; have := HJ27.out; have := HK5.out; have := HJ30.out; omega
                                            case rel => exact ⟨(y128), (wrap64 (x7_1 + 1)), (by first | rfl | (simp; done) | (simp [*]; done)), H', ⟨by have := HK1.out; have := HK2.out; have := HJ16.out; have := HJ27.out; have := HK5.out; have := HJ30.out; omega⟩, ⟨by (with_reducible repeat (first | apply Kd.S_alloc | apply Kd.S_drewN | apply Kd.S_drew)); exact HO130.out⟩, ⟨by (with_reducible repeat (first | apply Kd.R_alloc | apply Kd.R_drewN | apply Kd.R_drew)); exact Kd.R_mono HO_6.out (fun _ hk => trivial)⟩, ⟨by repeat (first | (with_reducible first | exact HB.out | apply below_alloc | apply pw_below_drewN | apply below_drew1) | exact HB.out)⟩⟩
                                          · rw [if_neg c52] at H
                                            exact absurd H (by simp)
                                        · replace c51 := Bool.eq_false_iff.mpr c51
                                          subst c51
                                          have H1 : (some (([] : List (S31)), x7_1, 50)) = some (r1, r2, r3) := by rw [if_neg (show ¬ (false = true) by decide)] at H; exact H
                                          clear H
                                          have H := H1
                                          clear H1
                                          simp only [Option.some.injEq, Prod.mk.injEq] at H
                                          obtain ⟨rfl, rfl, rfl⟩ := H
                                          go_wp2
                                          go_ret3
                                          exact ⟨_, by first | rfl | (simp [errW_none, errW_some] <;> rfl) | (simp [*, errW_none, errW_some] <;> rfl), by first | exact Kd.S_nil _ _ _ _ _ | exact Kd.N_nil _ _ _ _ _ | exact Kd.V_nil _ _ _ _ _ | exact Kd.Q_nil _ _ _ _ _ | exact Kd.R_nil _ _ _ _ _, by repeat (first | (with_reducible first | exact HB.out | apply below_alloc | apply pw_below_drewN | apply below_drew1) | exact HB.out)⟩
                        · rw [if_neg c26] at H
                          exact absurd H (by simp)
          · rw [if_neg c6] at H
            exact absurd H (by simp)
        · rw [if_neg c5] at H
          have c5b0 : decide (x7_1 < (t107.length : Int)) = false := decide_eq_false c5
          clear c5
          simp only [Option.some.injEq, Prod.mk.injEq] at H
          obtain ⟨rfl, rfl, rfl⟩ := H
          obtain ⟨Ao54, co54, eo54⟩ := Kd.R_slice HO_6.out
          subst eo54
          go_wp2
          go_ret3
          exact ⟨_, by first | rfl | (simp [errW_none, errW_some] <;> rfl) | (simp [*, errW_none, errW_some] <;> rfl), by (with_reducible repeat (first | apply Kd.S_alloc | apply Kd.S_drewN | apply Kd.S_drew)); exact Kd.S_mono HO_5.out (fun _ hk => trivial), by repeat (first | (with_reducible first | exact HB.out | apply below_alloc | apply pw_below_drewN | apply below_drew1) | exact HB.out)⟩

end Go.Proofs.YtmgaigbmeenjhaaDoor.Pparse
