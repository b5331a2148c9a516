/- Plain law, without a program: what the statement's own functions cut, digits, text and shape answer, in the words of the walks. -/
import Derived.Test.YtmgaigbmeenjhaaDoorRead
import Derived.Test.YtmgaigbmeenjhaaDoorPparsex3
namespace Go.Proofs.YtmgaigbmeenjhaaDoor
open Go.RowKit Go.Proofs.YtmgaigbmeenjhaaDoorW.PrintWords Go.Proofs.YtmgaigbmeenjhaaDoor.Pparse
namespace Plain

theorem wrap_up {i : Int} {n : Nat} (h0 : 0 ≤ i) (h : i < (n : Int)) (hn : n ≤ 140737488355328) : wrap64 (i + 1) = i + 1 := by
  unfold wrap64
  omega
theorem bt_nat (s : ByteArray) (i : Nat) (h : i < s.size) : bt s (i : Int) = ((s[i]'h).toNat : Int) := by simp [bt, h]

/-! ### digits, text -/
set_option maxRecDepth 1000000 in
theorem dec_byte : ∀ b : Fin 256, Cuts.hasR Cuts.decSet b.val = (decide (48 ≤ b.val) && decide (b.val ≤ 57)) := by decide
set_option maxRecDepth 1000000 in
theorem txt_byte : ∀ b : Fin 256, Cuts.hasR Cuts.txtSet b.val = ((decide (48 ≤ b.val) && decide (b.val ≤ 57)) || (decide (97 ≤ b.val) && decide (b.val ≤ 122))) := by decide
theorem dec_has (b : UInt8) : Cuts.hasB Cuts.decSet b = (decide (48 ≤ b.toNat) && decide (b.toNat ≤ 57)) := dec_byte ⟨b.toNat, b.toNat_lt⟩
theorem txt_has (b : UInt8) : Cuts.hasB Cuts.txtSet b = ((decide (48 ≤ b.toNat) && decide (b.toNat ≤ 57)) || (decide (97 ≤ b.toNat) && decide (b.toNat ≤ 122))) := txt_byte ⟨b.toNat, b.toNat_lt⟩
theorem allIn_no {set s : ByteArray} {i : Nat} (h : i < s.size) (hn : Cuts.hasB set (s[i]'h) = false) : Cuts.allIn set s = false := by
  unfold Cuts.allIn
  rw [List.all_eq_false]
  exact ⟨s[i]'h, Array.getElem_mem_toList _, by rw [hn]; simp⟩
theorem take_all {set s : ByteArray} {i : Nat} (h : i < s.size) (ha : (s.data.toList.take i).all (Cuts.hasB set) = true) (hy : Cuts.hasB set (s[i]'h) = true) : (s.data.toList.take (i + 1)).all (Cuts.hasB set) = true := by
  have e : s.data.toList.take (i + 1) = s.data.toList.take i ++ [s[i]'h] := by rw [List.take_succ_eq_append_getElem (by simpa using h)]; rfl
  rw [e, List.all_append, ha]
  simp [hy]

theorem digits_ev (s : ByteArray) (hs : s.size ≤ 140737488351232) : ∀ (d i : Nat), i + d = s.size → (s.data.toList.take i).all (Cuts.hasB Cuts.decSet) = true → Ev (fun k => caravellaw28_digits.l0 k s (i : Int)) (Cuts.isNum s)
  | 0, i, hd, ha => by
    have hall : Cuts.allIn Cuts.decSet s = true := by rw [List.take_of_length_le (by simp; omega)] at ha; exact ha
    refine Ev.step (f := fun _ => some (Cuts.isNum s)) (fun k => ?_) (Ev.now _)
    simp only [caravellaw28_digits.l0]
    rw [if_neg (by omega)]
    by_cases h1 : 1 ≤ s.size
    · rw [if_pos (by omega)]
      by_cases h2 : s.size ≤ 15
      · rw [if_pos (by omega)]
        have e : Cuts.isNum s = (s.toList == [48] || s.toList.head? != some 48) := by simp [Cuts.isNum, h1, h2, hall]
        rw [e]
        by_cases h3 : s.toList = ([48] : List UInt8)
        · rw [if_pos h3, h3]; rfl
        · rw [if_neg h3, if_pos (by omega), Cuts.head_ne (by omega), beq_eq_false_iff_ne.2 h3, Bool.false_or]
          have hb := bt_nat s 0 (by omega)
          rw [Int.natCast_zero] at hb
          rw [hb]
      · rw [if_neg (by omega)]
        simp [Cuts.isNum, h2]
    · rw [if_neg (by omega)]
      simp [Cuts.isNum, h1]
  | d + 1, i, hd, ha => by
    have hlt : i < s.size := by omega
    have hb := bt_nat s i hlt
    have hd1 := dec_has (s[i]'hlt)
    by_cases hy : Cuts.hasB Cuts.decSet (s[i]'hlt) = true
    · rw [hy] at hd1
      have h2 : 48 ≤ (s[i]'hlt).toNat ∧ (s[i]'hlt).toNat ≤ 57 := by simpa using hd1.symm
      refine Ev.step (f := fun k => caravellaw28_digits.l0 k s ((i + 1 : Nat) : Int)) (fun k => ?_) (digits_ev s hs d (i + 1) (by omega) (take_all hlt ha hy))
      simp only [caravellaw28_digits.l0]
      rw [if_pos (by omega), if_pos (by omega), if_neg (by omega), if_neg (by omega), wrap_up (n := s.size) (by omega) (by omega) (by omega)]
      rfl
    · have hy' : Cuts.hasB Cuts.decSet (s[i]'hlt) = false := by simpa using hy
      have hF : Cuts.isNum s = false := by simp [Cuts.isNum, allIn_no hlt hy']
      rw [hF]
      rw [hy'] at hd1
      refine Ev.step (f := fun _ => some false) (fun k => ?_) (Ev.now _)
      simp only [caravellaw28_digits.l0]
      rw [if_pos (by omega), if_pos (by omega)]
      by_cases h3 : bt s (i : Int) < 48
      · rw [if_pos h3]
      · rw [if_neg h3, if_pos]
        rw [hb] at h3 ⊢
        have : ¬ (48 ≤ (s[i]'hlt).toNat ∧ (s[i]'hlt).toNat ≤ 57) := fun h => by simp [h.1, h.2] at hd1
        omega

theorem text_ev (s : ByteArray) (hs : s.size ≤ 140737488351232) : ∀ (d i : Nat), i + d = s.size → (s.data.toList.take i).all (Cuts.hasB Cuts.txtSet) = true → Ev (fun k => caravellaw28_text.l0 k s (i : Int)) (Cuts.isTxt s)
  | 0, i, hd, ha => by
    have hall : Cuts.allIn Cuts.txtSet s = true := by rw [List.take_of_length_le (by simp; omega)] at ha; exact ha
    refine Ev.step (f := fun _ => some (Cuts.isTxt s)) (fun k => ?_) (Ev.now _)
    simp only [caravellaw28_text.l0]
    rw [if_neg (by omega)]
    by_cases h1 : 1 ≤ s.size
    · rw [if_pos (by omega)]
      have e : Cuts.isTxt s = decide (s.size ≤ 200) := by simp [Cuts.isTxt, h1, hall]
      rw [e]
      congr 1
      rw [decide_eq_decide]
      omega
    · rw [if_neg (by omega)]
      simp [Cuts.isTxt, h1]
  | d + 1, i, hd, ha => by
    have hlt : i < s.size := by omega
    have hb := bt_nat s i hlt
    have hd1 := txt_has (s[i]'hlt)
    by_cases hy : Cuts.hasB Cuts.txtSet (s[i]'hlt) = true
    · rw [hy] at hd1
      have h2 : (48 ≤ (s[i]'hlt).toNat ∧ (s[i]'hlt).toNat ≤ 57) ∨ (97 ≤ (s[i]'hlt).toNat ∧ (s[i]'hlt).toNat ≤ 122) := by simpa using hd1.symm
      refine Ev.step (f := fun k => caravellaw28_text.l0 k s ((i + 1 : Nat) : Int)) (fun k => ?_) (text_ev s hs d (i + 1) (by omega) (take_all hlt ha hy))
      simp only [caravellaw28_text.l0]
      rw [if_pos (by omega), if_pos (by omega), if_neg (show ¬ bt s (i : Int) < 48 by omega), wrap_up (n := s.size) (by omega) (by omega) (by omega)]
      by_cases h3 : bt s (i : Int) > 57
      · rw [if_pos h3, if_neg (by omega), if_neg (by omega)]; rfl
      · rw [if_neg h3]; rfl
    · have hy' : Cuts.hasB Cuts.txtSet (s[i]'hlt) = false := by simpa using hy
      have hF : Cuts.isTxt s = false := by simp [Cuts.isTxt, allIn_no hlt hy']
      rw [hF]
      rw [hy'] at hd1
      have hn1 : ¬ (48 ≤ (s[i]'hlt).toNat ∧ (s[i]'hlt).toNat ≤ 57) := fun h => by simp [h.1, h.2] at hd1
      have hn2 : ¬ (97 ≤ (s[i]'hlt).toNat ∧ (s[i]'hlt).toNat ≤ 122) := fun h => by simp [h.1, h.2] at hd1
      refine Ev.step (f := fun _ => some false) (fun k => ?_) (Ev.now _)
      simp only [caravellaw28_text.l0]
      rw [if_pos (by omega), if_pos (by omega)]
      by_cases h3 : bt s (i : Int) < 48
      · rw [if_pos h3, if_pos (by omega)]
      · rw [if_neg h3, if_pos (by omega)]
        by_cases h4 : bt s (i : Int) < 97
        · rw [if_pos h4]
        · rw [if_neg h4, if_pos (by omega)]
theorem digits_f (s : ByteArray) (hs : s.size ≤ 140737488351232) : Ev (fun k => caravellaw28_digits.f k s) (Cuts.isNum s) := digits_ev s hs s.size 0 (by omega) (by simp)
theorem text_f (s : ByteArray) (hs : s.size ≤ 140737488351232) : Ev (fun k => caravellaw28_text.f k s) (Cuts.isTxt s) := text_ev s hs s.size 0 (by omega) (by simp)

/-! ### shape -/
def shapeV (s : ByteArray) : ByteArray := if Shapes.known s = true then Shapes.shapeD s else ⟨#[63]⟩
set_option maxRecDepth 1000000 in
theorem shape_pos : ∀ p ∈ Shapes.full, caravellaw28_shape.f 5 p.1 = some (shapeV p.1) := by decide +kernel
theorem shape_neg (s : ByteArray) (h : ∀ p ∈ Shapes.full, s ≠ p.1) : caravellaw28_shape.f 5 s = some ⟨#[63]⟩ := by
  have ne : ∀ l : List UInt8, Shapes.full.any (fun p => p.1.data.toList == l) = true → s.toList ≠ l := fun l hl e => by
    obtain ⟨p, hp, e2⟩ := List.any_eq_true.1 hl
    refine h p hp (ByteArray.ext (Array.ext' ?_))
    rw [← ByteArray.toList_eq, e]
    exact (beq_iff_eq.1 e2).symm
  have n0 : s.toList ≠ ([99, 108, 105, 101, 110, 116] : List UInt8) := ne _ (by decide)
  have n1 : s.toList ≠ ([97, 99, 99, 101, 112, 116] : List UInt8) := ne _ (by decide)
  have n2 : s.toList ≠ ([108, 101, 110] : List UInt8) := ne _ (by decide)
  have n3 : s.toList ≠ ([116, 105, 109, 101] : List UInt8) := ne _ (by decide)
  have n4 : s.toList ≠ ([111, 112, 101, 110] : List UInt8) := ne _ (by decide)
  have n5 : s.toList ≠ ([115, 111, 112, 101, 110] : List UInt8) := ne _ (by decide)
  have n6 : s.toList ≠ ([119, 114, 105, 116, 101] : List UInt8) := ne _ (by decide)
  have n7 : s.toList ≠ ([115, 119, 114, 105, 116, 101] : List UInt8) := ne _ (by decide)
  have n8 : s.toList ≠ ([102, 105, 110, 105, 115, 104] : List UInt8) := ne _ (by decide)
  have n9 : s.toList ≠ ([115, 102, 105, 110, 105, 115, 104] : List UInt8) := ne _ (by decide)
  have n10 : s.toList ≠ ([114, 101, 97, 100] : List UInt8) := ne _ (by decide)
  have n11 : s.toList ≠ ([115, 114, 101, 97, 100] : List UInt8) := ne _ (by decide)
  have n12 : s.toList ≠ ([112, 111, 115, 116] : List UInt8) := ne _ (by decide)
  have n13 : s.toList ≠ ([115, 112, 111, 115, 116] : List UInt8) := ne _ (by decide)
  have n14 : s.toList ≠ ([102, 101, 116, 99, 104] : List UInt8) := ne _ (by decide)
  have n15 : s.toList ≠ ([115, 102, 101, 116, 99, 104] : List UInt8) := ne _ (by decide)
  have n16 : s.toList ≠ ([114, 117, 110] : List UInt8) := ne _ (by decide)
  have n17 : s.toList ≠ ([100, 114, 111, 112] : List UInt8) := ne _ (by decide)
  have n18 : s.toList ≠ ([112, 97, 115, 115] : List UInt8) := ne _ (by decide)
  have n19 : s.toList ≠ ([115, 116, 97, 116, 101] : List UInt8) := ne _ (by decide)
  have n20 : s.toList ≠ ([115, 115, 116, 97, 116, 101] : List UInt8) := ne _ (by decide)
  have n21 : s.toList ≠ ([99, 108, 111, 115, 101] : List UInt8) := ne _ (by decide)
  have n22 : s.toList ≠ ([115, 99, 108, 111, 115, 101] : List UInt8) := ne _ (by decide)
  simp [caravellaw28_shape.f, caravellaw28_shape.j0, caravellaw28_shape.j1, caravellaw28_shape.j2, caravellaw28_shape.j3, n0, n1, n2, n3, n4, n5, n6, n7, n8, n9, n10, n11, n12, n13, n14, n15, n16, n17, n18, n19, n20, n21, n22]
theorem shape_f (s : ByteArray) : Ev (fun k => caravellaw28_shape.f k s) (shapeV s) := by
  by_cases h : ∃ p ∈ Shapes.full, s = p.1
  · obtain ⟨p, hp, rfl⟩ := h
    exact Ev.of (caravellaw28_shape.mono p.1) (shape_pos p hp)
  · have h' : ∀ p ∈ Shapes.full, s ≠ p.1 := fun p hp e => h ⟨p, hp, e⟩
    have hk : Shapes.known s = false := by
      unfold Shapes.known Shapes.shapeIx
      rw [Option.isSome_eq_false_iff, Option.isNone_iff_eq_none, List.findIdx?_eq_none_iff]
      intro p hp
      cases hb : (s == p.1) with
      | false => rfl
      | true => exact absurd ((MapKept.bytes_beq _ _).1 hb) (h' p hp)
    have e : shapeV s = ⟨#[63]⟩ := by unfold shapeV; rw [hk]; rfl
    rw [e]
    exact Ev.of (caravellaw28_shape.mono s) (shape_neg s h')
/-- No row of the table says '?'. -/
theorem shape_known : ∀ p ∈ Shapes.full, p.2 ≠ ⟨#[63]⟩ := by decide
theorem shapeV_q (s : ByteArray) : shapeV s = ⟨#[63]⟩ ↔ Shapes.known s = false := by
  unfold shapeV
  constructor
  · intro h
    cases hk : Shapes.known s with
    | false => rfl
    | true =>
      rw [hk, if_pos rfl] at h
      exfalso
      unfold Shapes.known at hk
      unfold Shapes.shapeD at h
      cases hi : Shapes.shapeIx s with
      | none => rw [hi] at hk; cases hk
      | some j =>
        rw [hi] at h
        have hj : j < Shapes.full.length := (List.findIdx?_eq_some_iff_getElem.1 hi).1
        dsimp only at h
        rw [List.getElem?_eq_getElem hj] at h
        exact shape_known _ (List.getElem_mem hj) h
  · intro h
    rw [h]; rfl

/-! ### cut -/
theorem spl_no (c : UInt8) : ∀ u : List UInt8, c ∉ u → Seq.spl c u = [u]
  | [], _ => rfl
  | b :: u, h => by
    have h1 : b ≠ c := fun e => h (by rw [e]; simp)
    simp [Seq.spl, h1, spl_no c u (fun hm => h (List.mem_cons_of_mem _ hm))]
theorem spl_at (c : UInt8) (v : List UInt8) : ∀ u : List UInt8, c ∉ u → Seq.spl c (u ++ c :: v) = u :: Seq.spl c v
  | [], _ => by simp [Seq.spl]
  | b :: u, h => by
    have h1 : b ≠ c := fun e => h (by rw [e]; simp)
    simp [Seq.spl, h1, spl_at c v u (fun hm => h (List.mem_cons_of_mem _ hm))]
def mk (l : List UInt8) : ByteArray := ⟨l.toArray⟩
theorem mk_extract (s : ByteArray) (a b : Nat) : mk ((s.data.toList.drop a).take (b - a)) = s.extract a b := by
  apply ByteArray.ext
  apply Array.ext'
  simp only [mk, ByteArray.data_extract, Array.toList_extract, List.extract_eq_take_drop]
def restOf (c : UInt8) (s : ByteArray) (a : Nat) : List ByteArray := (Seq.spl c (s.data.toList.drop a)).map mk
theorem rest_end {c : UInt8} {s : ByteArray} {a : Nat} (h : c ∉ (s.data.toList.drop a).take (s.size - a)) : restOf c s a = [s.extract a s.size] := by
  have e : (s.data.toList.drop a).take (s.size - a) = s.data.toList.drop a := List.take_of_length_le (by simp)
  unfold restOf
  rw [← mk_extract, e]
  rw [e] at h
  rw [spl_no c _ h]
  rfl
theorem rest_hit {c : UInt8} {s : ByteArray} {a i : Nat} (hai : a ≤ i) (hi : i < s.size) (hc : s[i]'hi = c) (h : c ∉ (s.data.toList.drop a).take (i - a)) : restOf c s a = s.extract a i :: restOf c s (i + 1) := by
  have e : s.data.toList.drop a = (s.data.toList.drop a).take (i - a) ++ c :: s.data.toList.drop (i + 1) := by
    have h1 := (List.take_append_drop (i - a) (s.data.toList.drop a)).symm
    have h2 : (s.data.toList.drop a).drop (i - a) = c :: s.data.toList.drop (i + 1) := by
      rw [List.drop_drop, show a + (i - a) = i by omega, List.drop_eq_getElem_cons (by simpa using hi)]
      congr 1
    rw [h2] at h1
    exact h1
  unfold restOf
  rw [← mk_extract]
  conv => lhs; rw [e]
  rw [spl_at c _ _ h]
  rfl
theorem cut_ev (s : ByteArray) (c : UInt8) (hs : s.size ≤ 1048576) : ∀ (d i a : Nat) (acc : List ByteArray), i + d = s.size → a ≤ i → acc.length ≤ a → c ∉ (s.data.toList.drop a).take (i - a) →
    Ev (fun k => caravellaw28_cut.l0 k s (c.toNat : Int) acc (a : Int) (i : Int)) (acc ++ restOf c s a)
  | 0, i, a, acc, hd, hai, hac, hno => by
    obtain rfl : i = s.size := by omega
    rw [rest_end hno]
    refine Ev.step (f := fun k => caravellaw28_cut.l0 k s (c.toNat : Int) (acc ++ [s.extract a s.size]) ((s.size : Int) + 1) ((s.size : Int) + 1)) (fun k => ?_) ?_
    · simp only [caravellaw28_cut.l0]
      rw [if_pos (by omega), if_pos (by trivial), if_pos (by omega), if_pos (by omega), if_pos (by omega)]
      have e : wrap64 ((s.size : Int) + 1) = (s.size : Int) + 1 := by unfold wrap64; omega
      rw [e]
      rfl
    · refine Ev.step (f := fun _ => some (acc ++ [s.extract a s.size])) (fun k => ?_) (Ev.now _)
      simp only [caravellaw28_cut.l0]
      rw [if_neg (by omega)]
  | d + 1, i, a, acc, hd, hai, hac, hno => by
    have hlt : i < s.size := by omega
    have hb := bt_nat s i hlt
    have e1 : wrap64 ((i : Int) + 1) = ((i + 1 : Nat) : Int) := by unfold wrap64; omega
    by_cases hc : s[i]'hlt = c
    · rw [rest_hit hai hlt hc hno]
      have ih := cut_ev s c hs d (i + 1) (i + 1) (acc ++ [s.extract a i]) (by omega) (Nat.le_refl _) (by simp; omega) (by simp)
      rw [List.append_assoc, List.singleton_append] at ih
      refine Ev.step (fun k => ?_) ih
      simp only [caravellaw28_cut.l0]
      rw [if_pos (by omega), if_neg (by omega), if_pos (by omega), if_pos (by omega), if_pos (by rw [hb, hc]), if_pos (by omega), if_pos (by omega), if_pos (by omega), e1]
      rfl
    · have hno2 : c ∉ (s.data.toList.drop a).take (i + 1 - a) := by
        rw [show i + 1 - a = (i - a) + 1 by omega, List.take_succ_eq_append_getElem (by simp; omega)]
        intro hm
        rcases List.mem_append.1 hm with hm | hm
        · exact hno hm
        · have h2 := List.mem_singleton.1 hm
          apply hc
          rw [h2, List.getElem_drop]
          have : a + (i - a) = i := by omega
          simp only [this]
          rfl
      have ih := cut_ev s c hs d (i + 1) a acc (by omega) (by omega) hac hno2
      refine Ev.step (fun k => ?_) ih
      simp only [caravellaw28_cut.l0]
      rw [if_pos (by omega), if_neg (by omega), if_pos (by omega), if_pos (by omega), if_neg (by rw [hb]; intro e; exact hc (UInt8.toNat_inj.1 (by omega))), e1]
theorem cut_f (s : ByteArray) (c : UInt8) (hs : s.size ≤ 1048576) : Ev (fun k => caravellaw28_cut.f k s (c.toNat : Int)) (Seq.sp c s) := by
  have h := cut_ev s c hs s.size 0 0 [] (by omega) (Nat.le_refl _) (Nat.le_refl _) (by simp)
  have e : [] ++ restOf c s 0 = Seq.sp c s := rfl
  rw [e] at h
  exact h
end Plain
end Go.Proofs.YtmgaigbmeenjhaaDoor
