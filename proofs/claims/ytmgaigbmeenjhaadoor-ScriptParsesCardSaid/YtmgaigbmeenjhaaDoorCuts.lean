/- The walks of script.cutLeft and script.cutRight (functions 41, 40), under the condition that every byte of the set is ASCII. -/
import Derived.Test.YtmgaigbmeenjhaaDoorShelf
import Derived.WalkKit
import Derived.Lib.OthersKept
import Derived.Lib.Hide
import Derived.Outline
import Derived.WalkSmall
import Derived.BigQuiet
import Derived.Deep.QuietTactic
namespace Go.Proofs.YtmgaigbmeenjhaaDoor
open Go.RowKit
namespace Cuts

/-- A rune is one of a set's bytes. -/
def hasR (set : ByteArray) (r : Nat) : Bool := set.data.toList.any (fun b => b.toNat == r)
def hasB (set : ByteArray) (b : UInt8) : Bool := hasR set b.toNat
def Ascii (set : ByteArray) : Prop := ∀ b ∈ set.data.toList, b.toNat < 128

theorem hasR_high {set : ByteArray} (h : Ascii set) {r : Nat} (hr : 128 ≤ r) : hasR set r = false := by
  unfold hasR
  rw [List.any_eq_false]
  intro b hb
  have := h b hb
  simp
  omega
theorem width_pos (s : ByteArray) (pos : Nat) (h : pos < s.size) : 1 ≤ (Utf8.decode s pos).2 := by
  by_cases ha : (s[pos]'h).toNat < 128
  · rw [decode_ascii s pos h ha]
    exact Nat.le_refl _
  · exact (decode_high s pos h (by omega)).2
theorem dec_has {set s : ByteArray} (hA : Ascii set) {pos : Nat} (h : pos < s.size) : hasR set (Utf8.decode s pos).1 = hasB set (s[pos]'h) ∧ (hasB set (s[pos]'h) = true → (Utf8.decode s pos).2 = 1) := by
  by_cases ha : (s[pos]'h).toNat < 128
  · rw [decode_ascii s pos h ha]; exact ⟨rfl, fun _ => rfl⟩
  · have h1 := decode_high s pos h (by omega)
    have h2 : hasB set (s[pos]'h) = false := hasR_high hA (by omega)
    exact ⟨by rw [hasR_high hA h1.1, h2], fun h => by rw [h2] at h; cases h⟩

theorem any_snoc (set : ByteArray) (r j : Nat) (h : j < set.size) : (set.data.toList.take (j + 1)).any (fun b => b.toNat == r) = ((set.data.toList.take j).any (fun b => b.toNat == r) || (set[j]'h).toNat == r) := by
  have e : set.data.toList.take (j + 1) = set.data.toList.take j ++ [set[j]'h] := by rw [List.take_succ_eq_append_getElem (by simpa using h)]; rfl
  rw [e, List.any_append]
  simp

def dropL (set s : ByteArray) : ByteArray := ⟨(s.data.toList.dropWhile (hasB set)).toArray⟩
theorem dropL_at {set s : ByteArray} {pos : Nat} (h : pos < s.size) (ha : (s.data.toList.take pos).all (hasB set) = true) (hn : hasB set (s[pos]'h) = false) : dropL set s = s.extract pos s.size := by
  have e : s.data.toList = s.data.toList.take pos ++ s.data.toList.drop pos := (List.take_append_drop _ _).symm
  have e2 : s.data.toList.dropWhile (hasB set) = s.data.toList.drop pos := by
    rw [e, List.dropWhile_append_of_pos (by simpa using ha)]
    have hl : pos < s.data.toList.length := by simpa using h
    rw [← e, List.drop_eq_getElem_cons hl, List.dropWhile_cons]
    have : s.data.toList[pos] = s[pos]'h := rfl
    rw [this, hn]; simp
  apply ByteArray.ext
  apply Array.ext'
  unfold dropL
  rw [e2]
  simp only [ByteArray.data_extract, Array.toList_extract, List.extract_eq_take_drop]
  rw [List.take_of_length_le]
  simp
theorem dropL_all {set s : ByteArray} (ha : s.data.toList.all (hasB set) = true) : dropL set s = ⟨#[]⟩ := by
  have : s.data.toList.dropWhile (hasB set) = [] := by
    have := List.dropWhile_append_of_pos (p := hasB set) (l₁ := s.data.toList) (l₂ := []) (List.all_eq_true.1 ha)
    simpa using this
  unfold dropL
  rw [this]

set_option maxHeartbeats 1000000 in
set_option maxRecDepth 1000000 in
theorem cutLeft_walk (s set : ByteArray) (w : World) (hA : Ascii set) :
    Calls Tryd.prog 41 #[.string s, .string set] w fun e w' => e = .returned (.string (dropL set s)) ∧ Below w.heap.size w w' := by
  have HA := Lib.hid hA
  clear hA
  go_enter Tryd.func41, Tryd.ntmps41
  go_wp2
  go_loopw [] (fun wr => ∃ pos : Nat, wr.heap[w.heap.size]? = some (.stringIter s pos) ∧ Below w.heap.size w wr ∧ Hid (pos ≤ s.size) ∧ Hid ((s.data.toList.take pos).all (hasB set) = true)) (fun wr => s.size - wr.iterPos w.heap.size)
  case atStart =>
    exact ⟨0, World.iter_heap w s 0, (Below.refl _ w).alloc (Nat.le_refl _) _, Nat.zero_le _, (by simp : (s.data.toList.take 0).all (hasB set) = true)⟩
  case round =>
    obtain ⟨pos, hit, hbw, hpos, hall⟩ := hrel
    obtain ⟨wo, rfl⟩ : ∃ wo : World, wo = wr := ⟨_, rfl⟩
    have hlt0 : w.heap.size < wo.heap.size := (Array.getElem?_eq_some_iff.1 hit).1
    by_cases hp : pos < s.size
    · have hnx : ∀ ty, (Instr.next (.pointer (some ⟨w.heap.size, 0, none⟩)) true ty).run Tryd.prog wo = _ := fun ty => Lib.run_next_any_at wo w.heap.size s pos ty hit hp
      have hit2 := Lib.iterAt_heap wo w.heap.size s pos (pos + (Utf8.decode s pos).2) hit
      have hbw2 := Lib.below_iterAt hbw (k := w.heap.size) (Nat.le_refl _) s (pos + (Utf8.decode s pos).2)
      have hsz2 : wo.heap.size = (wo.iterAt w.heap.size s (pos + (Utf8.decode s pos).2)).heap.size := (Lib.iterAt_size _ _ _ _).symm
      have hdh := dec_has HA.out hp
      have hwd := width_pos s pos hp
      have hd1 := decode_le s pos
      have hmo : wo.iterPos w.heap.size = pos := iterPos_of hit
      generalize hq : pos + (Utf8.decode s pos).2 = q at *
      generalize (Utf8.decode s pos).2 = d at *
      have Hq := Lib.hid hq
      clear hq
      generalize (Utf8.decode s pos).1 = c at *
      have Hdh := Lib.hid hdh
      have Hmo := Lib.hid hmo
      clear hdh hmo
      generalize wo.iterAt w.heap.size s q = w2 at *
      have HS := Lib.hid hsz2
      have hw2 : w.heap.size < w2.heap.size := by omega
      clear hsz2
      have HA1 := HA.out
      go_wp2
      go_loopw [7] (fun b wi => ∃ (j : Nat) (x : Bool), b = .bool x ∧ Hid (x = (set.data.toList.take j).any (fun x => x.toNat == c)) ∧ wi.heap[w2.heap.size]? = some (.stringIter set j) ∧ Hid (j ≤ set.size) ∧ wi.heap[w.heap.size]? = some (.stringIter s q) ∧ Below w.heap.size w wi) (fun _ wi => set.size - wi.iterPos w2.heap.size)
      case atStart =>
        refine ⟨0, false, rfl, by simp [Hid], World.iter_heap w2 set 0, Nat.zero_le _, ?_, hbw2.alloc (by omega) _⟩
        exact (Below.heap_alloc w2 _ _ (by omega)).trans hit2
      case round =>
        obtain ⟨j, x, rfl, hx, hj1, hj2, hj3, hj4⟩ := hrel
        have hlt2 : w2.heap.size < wr.heap.size := (Array.getElem?_eq_some_iff.1 hj1).1
        by_cases hjs : j < set.size
        · have hb := HA.out (set[j]'hjs) (Array.getElem_mem_toList _)
          have hnx2 : ∀ ty, (Instr.next (.pointer (some ⟨w2.heap.size, 0, none⟩)) true ty).run Tryd.prog wr = _ := fun ty => Lib.run_next_ascii_at wr w2.heap.size set j ty hj1 hjs hb
          have hj1' := Lib.iterAt_heap wr w2.heap.size set j (j + 1) hj1
          have hj3' : (wr.iterAt w2.heap.size set (j + 1)).heap[w.heap.size]? = some (.stringIter s q) := (Lib.iterAt_other wr w2.heap.size w.heap.size set (j + 1) (by omega)).trans hj3
          have hj4' := Lib.below_iterAt hj4 (k := w2.heap.size) (by omega) set (j + 1)
          have Hsn := Lib.hid (any_snoc set c j hjs)
          have Hip : Hid (wr.iterPos w2.heap.size = j) := iterPos_of hj1
          have Hip2 : Hid ((wr.iterAt w2.heap.size set (j + 1)).iterPos w2.heap.size = j + 1) := iterPos_of hj1'
          generalize wr.iterAt w2.heap.size set (j + 1) = w3 at *
          have hbl : ((set[j]'hjs).toNat : Int) < 256 := by omega
          cases x with
          | true =>
            go_wp2
            all_goals go_roundw
            case rel => exact ⟨j + 1, true, rfl, by rw [Hid, Hsn.out, ← hx.out]; rfl, hj1', hjs, hj3', hj4'⟩
            case measure => rw [Hip.out, Hip2.out]; omega
          | false =>
            by_cases hcc : c = (set[j]'hjs).toNat
            · have hb1 : ((c : Int) == ((set[j]'hjs).toNat : Int)) = true := by rw [hcc]; simp
              have Hcc := Lib.hid hcc
              clear hcc
              go_wp2
              all_goals go_roundw
              case rel => exact ⟨j + 1, true, rfl, by rw [Hid, Hsn.out, ← hx.out, Hcc.out]; simp, hj1', hjs, hj3', hj4'⟩
              case measure => rw [Hip.out, Hip2.out]; omega
            · have hb1 : ((c : Int) == ((set[j]'hjs).toNat : Int)) = false := by rw [beq_eq_false_iff_ne]; omega
              have Hcc := Lib.hid hcc
              clear hcc
              go_wp2
              all_goals go_roundw
              case rel => exact ⟨j + 1, false, rfl, by rw [Hid, Hsn.out, ← hx.out, beq_eq_false_iff_ne.2 (fun h => Hcc.out h.symm)]; rfl, hj1', hjs, hj3', hj4'⟩
              case measure => rw [Hip.out, Hip2.out]; omega
        · have hnx2 : ∀ ty, (Instr.next (.pointer (some ⟨w2.heap.size, 0, none⟩)) true ty).run Tryd.prog wr = _ := fun ty => Lib.run_next_end_at wr w2.heap.size set j ty hj1 hjs
          have hxe : Hid (x = hasR set c) := by have := hx.out; rw [List.take_of_length_le (by simp; omega)] at this; exact this
          have Hip : Hid (wr.iterPos w.heap.size = q) := iterPos_of hj3
          clear hx
          cases x with
          | true =>
            go_wp2
            have h1 := Hdh.out
            rw [← hxe.out] at h1
            go_roundw
            case rel =>
              have h2 := h1.2 h1.1.symm
              refine ⟨pos + 1, by rw [← h2, Hq.out]; exact hj3, hj4, hp, ?_⟩
              have e : s.data.toList.take (pos + 1) = s.data.toList.take pos ++ [s[pos]'hp] := by rw [List.take_succ_eq_append_getElem (by simpa using hp)]; rfl
              rw [Hid, e, List.all_append, hall.out]
              simp [← h1.1]
            case measure => rw [Hip.out, Hmo.out, ← Hq.out]; omega
          | false =>
            go_wp2
            go_ret
            have h1 := Hdh.out
            rw [← hxe.out] at h1
            exact ⟨by rw [dropL_at hp hall.out h1.1.symm]; rfl, hj4⟩
    · have hnx : ∀ ty, (Instr.next (.pointer (some ⟨w.heap.size, 0, none⟩)) true ty).run Tryd.prog wo = _ := fun ty => Lib.run_next_end_at wo w.heap.size s pos ty hit hp
      go_wp2
      go_ret
      exact ⟨by rw [dropL_all (by rw [List.take_of_length_le (by simp; omega)] at hall; exact hall.out)]; rfl, hbw⟩

/-! ### cutRight -/
def dropR (set s : ByteArray) : ByteArray := ⟨((s.data.toList.reverse.dropWhile (hasB set)).reverse).toArray⟩
def strSize (v : Value) : Nat := match v with
  | .string t => t.size
  | _ => 0
theorem dropR_no {set s : ByteArray} (h : 0 < s.size) (hn : hasB set (s[s.size - 1]'(by omega)) = false) : dropR set s = s := by
  have e : s.data.toList.reverse = s[s.size - 1]'(by omega) :: (s.data.toList.take (s.size - 1)).reverse := by
    have : s.data.toList = s.data.toList.take (s.size - 1) ++ [s[s.size - 1]'(by omega)] := by
      have h2 := List.take_append_getElem (l := s.data.toList) (i := s.size - 1) (by simp; omega)
      rw [List.take_of_length_le (i := s.size - 1 + 1) (by simp; omega)] at h2
      exact h2.symm
    conv => lhs; rw [this]
    simp
  unfold dropR
  rw [e, List.dropWhile_cons, hn]
  simp only [Bool.false_eq_true, if_false]
  rw [← e]
  simp
theorem dropR_yes {set s : ByteArray} (h : 0 < s.size) (hn : hasB set (s[s.size - 1]'(by omega)) = true) : dropR set (s.extract 0 (s.size - 1)) = dropR set s := by
  have e : s.data.toList.reverse = s[s.size - 1]'(by omega) :: (s.data.toList.take (s.size - 1)).reverse := by
    have : s.data.toList = s.data.toList.take (s.size - 1) ++ [s[s.size - 1]'(by omega)] := by
      have h2 := List.take_append_getElem (l := s.data.toList) (i := s.size - 1) (by simp; omega)
      rw [List.take_of_length_le (i := s.size - 1 + 1) (by simp; omega)] at h2
      exact h2.symm
    conv => lhs; rw [this]
    simp
  unfold dropR
  rw [e, List.dropWhile_cons, hn]
  simp only [if_true]
  congr 4
  simp only [ByteArray.data_extract, Array.toList_extract, List.extract_eq_take_drop]
  simp
theorem dropR_nil (set : ByteArray) : dropR set ⟨#[]⟩ = ⟨#[]⟩ := rfl
/-- The rune at the end of a string that is not empty: it is in the set where its last byte is; it has then one byte. -/
theorem last_has {set s : ByteArray} (hA : Ascii set) (h : 0 < s.size) : hasR set (Lib.decodeLastL s.data.toList).1 = hasB set (s[s.size - 1]'(by omega)) ∧ (hasB set (s[s.size - 1]'(by omega)) = true → (Lib.decodeLastL s.data.toList).2 = 1) := by
  have hl : s.data.toList.length = s.size := by simp
  have hne : s.data.toList ≠ [] := by intro e; rw [e] at hl; simp at hl; omega
  have hg : s.data.toList.getD (s.data.toList.length - 1) 0 = s[s.size - 1]'(by omega) := by
    rw [List.getD_eq_getElem?_getD, hl, List.getElem?_eq_getElem (by omega)]; rfl
  unfold Lib.decodeLastL
  rw [if_neg hne, hg]
  by_cases ha : (s[s.size - 1]'(by omega)).toNat < 128
  · rw [if_pos ha]; exact ⟨rfl, fun _ => rfl⟩
  · rw [if_neg ha]
    have h2 : hasB set (s[s.size - 1]'(by omega)) = false := hasR_high hA (by omega)
    refine ⟨?_, fun h => by rw [h2] at h; cases h⟩
    rw [h2]
    dsimp only
    have hst : Lib.lastStart s.data.toList < s.data.toList.length := by
      unfold Lib.lastStart
      dsimp only
      repeat' split
      all_goals omega
    generalize Lib.lastStart s.data.toList = k at *
    unfold Lib.decodeL
    have hk : 0 < (⟨(s.data.toList.drop k).toArray⟩ : ByteArray).size := by
      show 0 < (s.data.toList.drop k).toArray.size
      simp only [List.size_toArray, List.length_drop]; omega
    have hk0 : (⟨(s.data.toList.drop k).toArray⟩ : ByteArray)[0]'hk = s[k]'(by omega) := by
      show (s.data.toList.drop k).toArray[0] = s.data[k]
      simp
    split
    · rename_i hd
      by_cases hf : ((⟨(s.data.toList.drop k).toArray⟩ : ByteArray)[0]'hk).toNat < 128
      · rw [decode_ascii _ 0 hk hf] at hd
        exfalso
        have : k = s.size - 1 := by simp only at hd; omega
        subst this
        rw [hk0] at hf
        exact ha hf
      · exact hasR_high hA (decode_high _ 0 hk (by omega)).1
    · exact hasR_high hA (by decide)
theorem cell_lt {w : World} {p : Addr} {v : Value} (h : w.cell? p = some v) : p.block < w.heap.size := by
  rcases Nat.lt_or_ge p.block w.heap.size with h1 | h1
  · exact h1
  · simp [World.cell?, Array.getElem?_eq_none h1] at h
theorem tabs_below {w w1 : World} (h : Lib.Utf8Tabs 2 3 w) (hb : Below w.heap.size w w1) : Lib.Utf8Tabs 2 3 w1 :=
  ⟨fun c hc => (hb.cell (p := ⟨2, c, none⟩) (cell_lt (h.1 c hc))).trans (h.1 c hc),
   fun i hi => ⟨(hb.cell (p := ⟨3, 2 * i, none⟩) (cell_lt (h.2 i hi).1)).trans (h.2 i hi).1, (hb.cell (p := ⟨3, 2 * i + 1, none⟩) (cell_lt (h.2 i hi).2)).trans (h.2 i hi).2⟩⟩

set_option maxHeartbeats 1000000 in
set_option maxRecDepth 1000000 in
theorem cutRight_walk (s set : ByteArray) (w : World) (hA : Ascii set) (hs : s.size ≤ 9223372036854775807) (hT : Lib.Utf8Tabs 2 3 w) :
    Calls Tryd.prog 40 #[.string s, .string set] w fun e w' => e = .returned (.string (dropR set s)) ∧ Below w.heap.size w w' := by
  have HA := Lib.hid hA
  clear hA
  have HT := Lib.hid hT
  clear hT
  go_enter Tryd.func40, Tryd.ntmps40
  go_wp2
  go_loopw [0] (fun v wr => ∃ t : ByteArray, v = .string t ∧ t.size ≤ s.size ∧ Hid (dropR set t = dropR set s) ∧ Below w.heap.size w wr) (fun v _ => strSize v)
  case atStart =>
    exact ⟨s, rfl, Nat.le_refl _, (rfl : dropR set s = dropR set s), Below.refl _ _⟩
  case round =>
    obtain ⟨t, rfl, hts, ht, hbw⟩ := hrel
    obtain ⟨wo, rfl⟩ : ∃ wo : World, wo = wr := ⟨_, rfl⟩
    by_cases hp : 0 < t.size
    · have hT1 : Lib.Utf8Tabs 2 3 wo := tabs_below HT.out hbw
      have HT1 := Lib.hid hT1
      clear hT1
      have Hlh := Lib.hid (last_has HA.out hp)
      generalize hdl : Lib.decodeLastL t.data.toList = dl at *
      have Hdl := Lib.hid hdl
      clear hdl
      obtain ⟨c, d⟩ := dl
      go_wp2_with (go_at_call 47; (refine (Tryd.utf8_DecodeLastRuneInString t wo (by omega) HT1.out).mono ?_); rw [Hdl.out]; dsimp only; rintro e w2 ⟨rfl, hb2⟩)
      replace Hlh : Hid (hasR set c = hasB set (t[t.size - 1]'(by omega)) ∧ (hasB set (t[t.size - 1]'(by omega)) = true → d = 1)) := Hlh
      have hbw2 := hbw.trans (hb2.mono hbw.size)
      have hsz2 := hbw2.size
      go_loopw [7] (fun b wi => ∃ (j : Nat) (x : Bool), b = .bool x ∧ Hid (x = (set.data.toList.take j).any (fun x => x.toNat == c)) ∧ wi.heap[w2.heap.size]? = some (.stringIter set j) ∧ Hid (j ≤ set.size) ∧ Below w.heap.size w wi) (fun _ wi => set.size - wi.iterPos w2.heap.size)
      case atStart =>
        exact ⟨0, false, rfl, by simp [Hid], World.iter_heap w2 set 0, Nat.zero_le _, hbw2.alloc (by omega) _⟩
      case round =>
        obtain ⟨j, x, rfl, hx, hj1, hj2, hj4⟩ := hrel
        have hlt2 : w2.heap.size < wr.heap.size := (Array.getElem?_eq_some_iff.1 hj1).1
        by_cases hjs : j < set.size
        · have hb := HA.out (set[j]'hjs) (Array.getElem_mem_toList _)
          have hnx2 : ∀ ty, (Instr.next (.pointer (some ⟨w2.heap.size, 0, none⟩)) true ty).run Tryd.prog wr = _ := fun ty => Lib.run_next_ascii_at wr w2.heap.size set j ty hj1 hjs hb
          have hj1' := Lib.iterAt_heap wr w2.heap.size set j (j + 1) hj1
          have hj4' := Lib.below_iterAt hj4 (k := w2.heap.size) (by omega) set (j + 1)
          have Hsn := Lib.hid (any_snoc set c j hjs)
          have Hip : Hid (wr.iterPos w2.heap.size = j) := iterPos_of hj1
          have Hip2 : Hid ((wr.iterAt w2.heap.size set (j + 1)).iterPos w2.heap.size = j + 1) := iterPos_of hj1'
          generalize wr.iterAt w2.heap.size set (j + 1) = w3 at *
          have hbl : ((set[j]'hjs).toNat : Int) < 256 := by omega
          cases x with
          | true =>
            go_wp2
            all_goals go_roundw
            case rel => exact ⟨j + 1, true, rfl, by rw [Hid, Hsn.out, ← hx.out]; rfl, hj1', hjs, hj4'⟩
            case measure => rw [Hip.out, Hip2.out]; omega
          | false =>
            by_cases hcc : c = (set[j]'hjs).toNat
            · have hb1 : ((c : Int) == ((set[j]'hjs).toNat : Int)) = true := by rw [hcc]; simp
              have Hcc := Lib.hid hcc
              clear hcc
              go_wp2
              all_goals go_roundw
              case rel => exact ⟨j + 1, true, rfl, by rw [Hid, Hsn.out, ← hx.out, Hcc.out]; simp, hj1', hjs, hj4'⟩
              case measure => rw [Hip.out, Hip2.out]; omega
            · have hb1 : ((c : Int) == ((set[j]'hjs).toNat : Int)) = false := by rw [beq_eq_false_iff_ne]; omega
              have Hcc := Lib.hid hcc
              clear hcc
              go_wp2
              all_goals go_roundw
              case rel => exact ⟨j + 1, false, rfl, by rw [Hid, Hsn.out, ← hx.out, beq_eq_false_iff_ne.2 (fun h => Hcc.out h.symm)]; rfl, hj1', hjs, hj4'⟩
              case measure => rw [Hip.out, Hip2.out]; omega
        · have hnx2 : ∀ ty, (Instr.next (.pointer (some ⟨w2.heap.size, 0, none⟩)) true ty).run Tryd.prog wr = _ := fun ty => Lib.run_next_end_at wr w2.heap.size set j ty hj1 hjs
          have hxe : Hid (x = hasR set c) := by have := hx.out; rw [List.take_of_length_le (by simp; omega)] at this; exact this
          clear hx
          cases x with
          | true =>
            have h1 := Hlh.out
            rw [← hxe.out] at h1
            obtain rfl : d = 1 := h1.2 h1.1.symm
            have H1 := Lib.hid h1
            clear h1 Hlh
            go_wp2
            go_roundw
            case rel => exact ⟨_, rfl, by simp; omega, by have := dropR_yes hp H1.out.1.symm; rw [ht.out] at this; exact this, hj4⟩
            case measure => simp [strSize]; omega
          | false =>
            go_wp2
            go_ret
            have h1 := Hlh.out
            rw [← hxe.out] at h1
            exact ⟨by rw [← ht.out, dropR_no hp h1.1.symm]; rfl, hj4⟩
    · go_wp2
      go_ret
      exact ⟨by
        rw [← ht.out]
        have : t = ⟨#[]⟩ := by
          apply ByteArray.ext
          exact Array.eq_empty_of_size_eq_zero (show t.size = 0 by omega)
        rw [this, dropR_nil]; rfl, hbw⟩

/-! ### within -/
def allIn (set s : ByteArray) : Bool := s.data.toList.all (hasB set)
theorem dropWhile_all {p : UInt8 → Bool} : ∀ {l : List UInt8}, l.dropWhile p = [] ↔ l.all p = true
  | [] => by simp
  | a :: l => by
    rw [List.dropWhile_cons]
    cases h : p a
    · simp [h]
    · simp only [if_true, List.all_cons, h, Bool.true_and]; exact dropWhile_all
theorem dropWhile_head {p : UInt8 → Bool} : ∀ {l : List UInt8} {a : UInt8} {r : List UInt8}, l.dropWhile p = a :: r → p a = false
  | [], _, _, h => by simp at h
  | b :: l, a, r, h => by
    rw [List.dropWhile_cons] at h
    cases hb : p b
    · rw [hb] at h; simp only [Bool.false_eq_true, if_false, List.cons.injEq] at h; rw [← h.1]; exact hb
    · rw [hb] at h; simp only [if_true] at h; exact dropWhile_head h
theorem dropR_dropL (set s : ByteArray) : (dropR set (dropL set s)).toList.isEmpty = allIn set s := by
  rw [ByteArray.toList_eq]
  unfold dropR dropL allIn
  simp only [List.isEmpty_reverse]
  cases h : s.data.toList.all (hasB set)
  · have h1 : s.data.toList.dropWhile (hasB set) ≠ [] := fun e => by rw [dropWhile_all.1 e] at h; cases h
    cases hd : s.data.toList.dropWhile (hasB set) with
    | nil => exact absurd hd h1
    | cons a r =>
      have ha := dropWhile_head hd
      rw [List.isEmpty_eq_false_iff]
      intro e
      have := dropWhile_all.1 e
      rw [List.all_reverse, List.all_cons, ha] at this
      simp at this
  · rw [dropWhile_all.2 h]; rfl
set_option maxHeartbeats 1000000 in
theorem within_walk (s set : ByteArray) (w : World) (hA : Ascii set) (hs : s.size ≤ 9223372036854775807) (hT : Lib.Utf8Tabs 2 3 w) :
    Calls Tryd.prog 34 #[.string s, .string set] w fun e w' => e = .returned (.bool (allIn set s)) ∧ Below w.heap.size w w' := by
  have HA := Lib.hid hA
  clear hA
  have HT := Lib.hid hT
  clear hT
  have hsz : (dropL set s).size ≤ 9223372036854775807 := by
    have : (dropL set s).size ≤ s.size := by
      show (s.data.toList.dropWhile (hasB set)).toArray.size ≤ s.size
      have := (List.dropWhile_suffix (hasB set) (l := s.data.toList)).length_le
      simpa using this
    omega
  have H := Lib.hid (dropR_dropL set s)
  go_enter Tryd.func34, Tryd.ntmps34
  go_wp2_with (first | (go_at_call 41; (refine (cutLeft_walk s set w HA.out).mono ?_); rintro e w1 ⟨rfl, hb1⟩) | (go_at_call 40; (refine (cutRight_walk (dropL set s) set _ HA.out hsz (tabs_below HT.out (by assumption))).mono ?_); rintro e w2 ⟨rfl, hb2⟩))
  go_ret
  exact ⟨by rw [← H.out]; rfl, hb1.trans (hb2.mono hb1.size)⟩

/-! ### isNumber, isText -/
def decSet : ByteArray := ⟨#[48, 49, 50, 51, 52, 53, 54, 55, 56, 57]⟩
def txtSet : ByteArray := ⟨#[97, 98, 99, 100, 101, 102, 103, 104, 105, 106, 107, 108, 109, 110, 111, 112, 113, 114, 115, 116, 117, 118, 119, 120, 121, 122, 48, 49, 50, 51, 52, 53, 54, 55, 56, 57]⟩
theorem decAscii : Ascii decSet := by unfold Ascii decSet; decide
theorem txtAscii : Ascii txtSet := by unfold Ascii txtSet; decide
def isNum (s : ByteArray) : Bool := decide (1 ≤ s.size) && decide (s.size ≤ 15) && allIn decSet s && (s.toList == [48] || s.toList.head? != some 48)
def isTxt (s : ByteArray) : Bool := decide (1 ≤ s.size) && decide (s.size ≤ 200) && allIn txtSet s
set_option maxHeartbeats 1000000 in
theorem isText_walk (s : ByteArray) (w : World) (hs : s.size ≤ 9223372036854775807) (hT : Lib.Utf8Tabs 2 3 w) :
    Calls Tryd.prog 26 #[.string s] w fun e w' => e = .returned (.bool (isTxt s)) ∧ Below w.heap.size w w' := by
  have HT := Lib.hid hT
  clear hT
  by_cases h1 : 1 ≤ s.size
  · by_cases h2 : s.size ≤ 200
    · have H : Hid (isTxt s = allIn txtSet s) := by simp [Hid, isTxt, h1, h2]
      go_enter Tryd.func26, Tryd.ntmps26
      go_wp2_with (go_at_call 34; (refine (within_walk s txtSet w txtAscii hs HT.out).mono ?_); rintro e w1 ⟨rfl, hb1⟩)
      go_ret
      exact ⟨by rw [H.out]; rfl, hb1⟩
    · have H : Hid (isTxt s = false) := by simp [Hid, isTxt, h2]
      go_enter Tryd.func26, Tryd.ntmps26
      go_wp2
      go_ret
      exact ⟨by rw [H.out]; rfl, Below.refl _ _⟩
  · have H : Hid (isTxt s = false) := by simp [Hid, isTxt, h1]
    go_enter Tryd.func26, Tryd.ntmps26
    go_wp2
    go_ret
    exact ⟨by rw [H.out]; rfl, Below.refl _ _⟩

theorem head_ne {s : ByteArray} (h : 0 < s.size) : (s.toList.head? != some 48) = (((s[0]'h).toNat : Int) != 48) := by
  rw [ByteArray.toList_eq]
  have : s.data.toList.head? = some (s[0]'h) := by
    rw [List.head?_eq_getElem?, List.getElem?_eq_getElem (by simpa using h)]; rfl
  rw [this]
  rw [Bool.eq_iff_iff, bne_iff_ne, bne_iff_ne]
  constructor
  · intro hn e; apply hn; congr 1; apply UInt8.toNat_inj.1; simpa using (by omega : (s[0]'h).toNat = 48)
  · intro hn e; apply hn; rw [Option.some.inj e]; rfl
set_option maxHeartbeats 2000000 in
theorem isNumber_walk (s : ByteArray) (w : World) (hs : s.size ≤ 9223372036854775807) (hT : Lib.Utf8Tabs 2 3 w) :
    Calls Tryd.prog 25 #[.string s] w fun e w' => e = .returned (.bool (isNum s)) ∧ Below w.heap.size w w' := by
  have HT := Lib.hid hT
  clear hT
  by_cases h1 : 1 ≤ s.size
  · by_cases h2 : s.size ≤ 15
    · have H : Hid (isNum s = (allIn decSet s && (s.toList == [48] || s.toList.head? != some 48))) := by simp [Hid, isNum, h1, h2]
      have h0 : 0 < s.size := h1
      have Hh := Lib.hid (head_ne h0)
      cases ha : allIn decSet s with
      | false =>
        have Ha := Lib.hid ha
        clear ha
        go_enter Tryd.func25, Tryd.ntmps25
        go_wp2_with (go_at_call 34; (refine (within_walk s decSet w decAscii hs HT.out).mono ?_); rw [Ha.out]; rintro e w1 ⟨rfl, hb1⟩)
        go_ret
        exact ⟨by rw [H.out, Ha.out]; rfl, hb1⟩
      | true =>
        have Ha := Lib.hid ha
        clear ha
        cases hq : (s.toList == ([48] : List UInt8)) with
        | true =>
          go_enter Tryd.func25, Tryd.ntmps25
          go_wp2_with (go_at_call 34; (refine (within_walk s decSet w decAscii hs HT.out).mono ?_); rw [Ha.out]; rintro e w1 ⟨rfl, hb1⟩)
          go_ret
          exact ⟨by rw [H.out, Ha.out, hq]; rfl, hb1⟩
        | false =>
          go_enter Tryd.func25, Tryd.ntmps25
          go_wp2_with (go_at_call 34; (refine (within_walk s decSet w decAscii hs HT.out).mono ?_); rw [Ha.out]; rintro e w1 ⟨rfl, hb1⟩)
          go_ret
          exact ⟨by rw [H.out, Ha.out, hq, Hh.out]; rfl, hb1⟩
    · have H : Hid (isNum s = false) := by simp [Hid, isNum, h2]
      go_enter Tryd.func25, Tryd.ntmps25
      go_wp2
      go_ret
      exact ⟨by rw [H.out]; rfl, Below.refl _ _⟩
  · have H : Hid (isNum s = false) := by simp [Hid, isNum, h1]
    go_enter Tryd.func25, Tryd.ntmps25
    go_wp2
    go_ret
    exact ⟨by rw [H.out]; rfl, Below.refl _ _⟩
end Cuts
end Go.Proofs.YtmgaigbmeenjhaaDoor
