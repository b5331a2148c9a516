/- The walk of script.read (function 11): the lines of a text that say something, or the first one that is none, under the condition that the tables of unicode/utf8 are laid. -/
import Derived.Test.YtmgaigbmeenjhaaDoorShapes
import Derived.Test.YtmgaigbmeenjhaaDoorSeq
import Derived.StillTailTactics
import Derived.Deep.RegionWith
import Derived.Deep.RegionLaw
namespace Go.Proofs.YtmgaigbmeenjhaaDoor
open Go.RowKit Go.Proofs.YtmgaigbmeenjhaaDoorW.PrintWords
namespace Read

/-! ### A slice of texts that shares its array: the kind of a line's words -/
def in9 (w : World) (base k : Nat) : Prop := base ≤ k ∧ k < w.heap.size ∧ ∃ cells, w.heap[k]? = some (.cells cells 9 (0, 0))
def kSh : Kd (List ByteArray) where
  sz := 1
  E := [9]
  K := fun w xs cs => ∃ A c, cs = [.slice A xs.length c] ∧ xs.length ≤ c ∧ Kd.string.C w A xs.length xs
  M := fun w base ok xs cs => ∃ A c, cs = [.slice A xs.length c] ∧ xs.length ≤ c ∧ Kd.F Kd.string w (fun k => ok k ∧ in9 w base k) A xs.length xs
  K_len := by rintro w x cs ⟨A, c, rfl, _⟩; rfl
  K_one := by
    rintro w x cs ⟨A, c, rfl, _⟩ u hu
    rw [List.mem_singleton.1 hu]
    rfl
  K_below := by
    rintro w w1 x cs hb ⟨A, c, rfl, hl, hr⟩
    exact ⟨A, c, rfl, hl, Kd.C_below hr hb⟩
  K_of_M := by
    rintro w base ok x cs ⟨A, c, rfl, hl, hr⟩
    exact ⟨A, c, rfl, hl, Kd.F_now hr⟩
  M_mono := by
    rintro w base ok ok' x cs hok ⟨A, c, rfl, hl, hr⟩
    exact ⟨A, c, rfl, hl, Kd.F_mono hr (fun k hk => ⟨hok k hk.1, hk.2⟩)⟩
  M_bound := by
    rintro w base ok x cs ⟨A, c, rfl, hl, hr⟩
    refine ⟨A, c, rfl, hl, Kd.F_mono hr (fun k hk => ?_)⟩
    obtain ⟨h1, h2, h3, cells, h4⟩ := hk
    exact ⟨⟨h1, h2, h3, 9, List.mem_singleton.2 rfl, cells, h4⟩, h2, h3, cells, h4⟩
  M_move := by
    rintro w w1 base ok x cs hm ⟨A, c, rfl, hl, hr⟩
    refine ⟨A, c, rfl, hl, Kd.F_mono (Kd.F_step hr (fun k hk _ => hm k hk.1)) (fun k hk => ?_)⟩
    obtain ⟨h1, h2, h3, cells, h4⟩ := hk
    have e := hm k h1
    exact ⟨h1, h2, heap_lt e h3, cells, e.trans h4⟩
  M_lower := by
    rintro w base base' ok x cs hb ⟨A, c, rfl, hl, hr⟩
    exact ⟨A, c, rfl, hl, Kd.F_mono hr (fun k hk => ⟨hk.1, Nat.le_trans hb hk.2.1, hk.2.2⟩)⟩

/-- A placed line. -/
structure P39 where
  f0 : ByteArray
  f1 : List ByteArray
  f2 : Int
def k39 : Kd P39 := Kd.iso (Kd.pair (Kd.pair Kd.string kSh) (Kd.int .i64)) (fun x : P39 => ((x.f0, x.f1), x.f2))
theorem k39_open {w : World} {x : P39} {cs : List Value} (h : k39.K w x cs) : ∃ A c, cs = [.string x.f0, .slice A x.f1.length c, .int .i64 x.f2] ∧ x.f1.length ≤ c ∧ Kd.string.C w A x.f1.length x.f1 := by
  obtain ⟨_, _, rfl, ⟨_, _, rfl, rfl, A, c, rfl, h1, h2⟩, rfl⟩ := h
  exact ⟨A, c, rfl, h1, h2⟩
theorem info39 : (Tryd.prog.info? 39).map (fun i => (i.zero, i.size, i.bytes)) = some (some (.agg #[.string ⟨#[]⟩, .slice none 0 0, .int .i64 0]), 3, 48) := by kernel_rfl

/-! ### What a line says -/
def hashB (x : ByteArray) : Bool := Lib.hasPrefix x.data.toList [35]
def lineOf (x : ByteArray) (i : Nat) : Option (Option P39) :=
  let ws := Seq.wordsOf x
  if ws.length = 0 then some none
  else if hashB (rdOf ByteArray.empty ws 0) = true then some none
  else if Shapes.rightB (rdOf ByteArray.empty ws 0) (ws.drop 1) = true then some (some ⟨rdOf ByteArray.empty ws 0, ws.drop 1, (i : Int)⟩)
  else none
def readL : List ByteArray → Nat → List P39 → Sum (List P39) Nat
  | [], _, acc => .inl acc
  | x :: r, i, acc => match lineOf x i with
    | none => .inr i
    | some none => readL r (i + 1) acc
    | some (some p) => readL r (i + 1) (acc ++ [p])
theorem readL_at {L : List ByteArray} {i : Nat} (h : i < L.length) (acc : List P39) : readL (L.drop i) i acc = match lineOf (L[i]'h) i with
    | none => .inr i
    | some none => readL (L.drop (i + 1)) (i + 1) acc
    | some (some p) => readL (L.drop (i + 1)) (i + 1) (acc ++ [p]) := by
  rw [List.drop_eq_getElem_cons h]
  rfl
theorem readL_end {L : List ByteArray} {i : Nat} (h : L.length ≤ i) (acc : List P39) : readL (L.drop i) i acc = .inl acc := by
  rw [List.drop_of_length_le h]; rfl

/-! ### strings.Split at one byte -/
theorem splitB_sp (c : UInt8) : ∀ (k : Nat) (s : ByteArray), Lib.countB s ⟨#[c]⟩ = k → Lib.splitB ⟨#[c]⟩ 0 k s = Seq.sp c s
  | k, s, h => by
    have e1 : Lib.indexB s ⟨#[c]⟩ = Lib.indexByte s.data.toList c := Lib.index_one _ _
    by_cases hm : Lib.indexByte s.data.toList c = -1
    · rw [Lib.splitB_miss _ _ _ _ (e1.trans hm), Seq.sp_miss hm]
    · have hge := Lib.indexByte_ge s.data.toList c
      obtain ⟨i, hi⟩ : ∃ i : Nat, Lib.indexByte s.data.toList c = (i : Int) := ⟨(Lib.indexByte s.data.toList c).toNat, by omega⟩
      have hc := Lib.countB_hit s ⟨#[c]⟩ i (Nat.le_refl _) (e1.trans hi)
      obtain ⟨k', rfl⟩ : ∃ k', k = k' + 1 := ⟨k - 1, by omega⟩
      rw [Lib.splitB_hit _ _ _ _ i (e1.trans hi), (Seq.sp_hit hi).2]
      have hs : (⟨#[c]⟩ : ByteArray).size = 1 := rfl
      rw [hs] at hc ⊢
      rw [splitB_sp c k' _ (by omega)]
      rfl
theorem split_sp (c : UInt8) (s : ByteArray) : Lib.splitB ⟨#[c]⟩ 0 (Lib.countB s ⟨#[c]⟩) s = Seq.sp c s := splitB_sp c _ s rfl
theorem split_len (c : UInt8) (s : ByteArray) : Lib.countB s ⟨#[c]⟩ + 1 = (Seq.sp c s).length := by
  rw [← split_sp, Lib.splitB_all _ (Nat.le_refl _) _ _ _ rfl]
theorem splitC (c : UInt8) (s : ByteArray) (w : World) (h : w.ShapedOpen Tryd.prog) (hs : s.size ≤ 1048576) :
    Calls Tryd.prog 13 #[.string s, .string ⟨#[c]⟩] w fun e w' =>
      e = .returned (.slice (some ⟨w.heap.size, 0, none⟩) (Seq.sp c s).length (Seq.sp c s).length) ∧ w' = w.alloc (.cells ((Seq.sp c s).map Value.string).toArray 9) := by
  have h1 := Tryd.strings_Split_shaped s ⟨#[c]⟩ w h (by omega) (Nat.le_refl _)
  rw [split_sp, split_len] at h1
  exact h1

theorem words_calls (x : ByteArray) (w : World) (hx : x.size ≤ 1048576) :
    Calls Tryd.prog 14 #[.string x] w fun e w' => ∃ v, e = .returned v ∧ Kd.R Kd.string 9 w' w.heap.size (fun _ => True) v (Seq.wordsOf x) ∧ Below w.heap.size w w' :=
  (callsIn_wide.1 (Seq.words_walk x w hx)).mono fun _ _ ⟨v, he, ho, hb⟩ => ⟨v, he, Kd.R_lower (Kd.R_of_own ho (fun _ _ => trivial)) (Nat.le_add_right _ 4), hb⟩

theorem spl_pieces (c : UInt8) : ∀ (l : List UInt8) (x : List UInt8), x ∈ Seq.spl c l → x.length ≤ l.length
  | [], x, h => by simp [Seq.spl] at h; subst h; simp
  | b :: l, x, h => by
    unfold Seq.spl at h
    split at h
    · rcases List.mem_cons.1 h with rfl | h
      · simp
      · have := spl_pieces c l x h; simp; omega
    · split at h
      · simp at h; subst h; simp
      · rename_i hd tl e
        rcases List.mem_cons.1 h with rfl | h
        · have := spl_pieces c l hd (by rw [e]; simp); simp; omega
        · have := spl_pieces c l x (by rw [e]; simp [h]); simp; omega
theorem sp_pieces (c : UInt8) (s x : ByteArray) (h : x ∈ Seq.sp c s) : x.size ≤ s.size := by
  unfold Seq.sp at h
  obtain ⟨l, hl, rfl⟩ := List.mem_map.1 h
  have h2 := spl_pieces c _ l hl
  show l.toArray.size ≤ s.size
  simpa using h2
theorem words_pieces (x y : ByteArray) (h : y ∈ Seq.wordsOf x) : y.size ≤ x.size := sp_pieces 32 x y (List.mem_filter.1 h).1
theorem wordsOf_len (x : ByteArray) : (Seq.wordsOf x).length ≤ x.size + 1 := Nat.le_trans (Seq.keep_le _) (Seq.sp_len 32 x)

set_option maxRecDepth 1000000 in
set_option maxHeartbeats 4000000 in
theorem read_big (s : ByteArray) (w : World) (hs : 1048576 < s.size) :
    Calls Tryd.prog 11 #[.string s] w fun e w' => e = .returned (.tuple #[.slice none 0 0, .iface 23 (.int .i64 3)]) ∧ w = w' := by
  go_enter Tryd.func11, Tryd.ntmps11
  go_wp2
  go_ret2
  exact ⟨rfl, rfl⟩

def ReadPost (s : ByteArray) (w : World) (e : Ending) (w' : World) : Prop :=
  Below w.heap.size w w' ∧
  match readL (Seq.sp 10 s) 0 [] with
  | .inl l => ∃ v, e = .returned (.tuple #[v, .nilIface]) ∧ Kd.R k39 39 w' w.heap.size (fun _ => True) v l
  | .inr i => e = .returned (.tuple #[.slice none 0 0, .iface 47 (.agg #[.int .i64 (i : Int)])])
set_option maxRecDepth 1000000 in
set_option maxHeartbeats 4000000 in
theorem read_walk (s : ByteArray) (w : World) (hs : s.size ≤ 1048576) (hSh : w.ShapedOpen Tryd.prog) (hT : Lib.Utf8Tabs 2 3 w) :
    Calls Tryd.prog 11 #[.string s] w (ReadPost s w) := by
  have HT := Lib.hid hT
  have HSh := Lib.hid hSh
  have hL := Seq.sp_len 10 s
  have HP := Lib.hid (sp_pieces 10 s)
  have hb1 : Below w.heap.size w (w.alloc (.cells ((Seq.sp 10 s).map Value.string).toArray 9)) := (Below.refl _ _).alloc (Nat.le_refl _) _
  have hc1 : Hid (∀ i (h : i < (Seq.sp 10 s).length), (w.alloc (.cells ((Seq.sp 10 s).map Value.string).toArray 9)).cell? ⟨w.heap.size, i, none⟩ = some (.string ((Seq.sp 10 s)[i]'h))) := by
    intro i h
    rw [cell_of_row _ w.heap.size i _ _ _ (MapKept.heap_alloc w (.cells ((Seq.sp 10 s).map Value.string).toArray 9)).1]
    simp [h]
  have HC := splitC 10 s w hSh hs
  have HRL : Hid (∀ e w', ReadPost s w e w' ↔ Below w.heap.size w w' ∧ match readL (Seq.sp 10 s) 0 [] with
    | .inl l => ∃ v, e = .returned (.tuple #[v, .nilIface]) ∧ Kd.R k39 39 w' w.heap.size (fun _ => True) v l
    | .inr i => e = .returned (.tuple #[.slice none 0 0, .iface 47 (.agg #[.int .i64 (i : Int)])])) := fun e w' => Iff.rfl
  clear hT hSh
  generalize Seq.sp 10 s = L at *
  have HSC := Lib.hid HC
  clear HC
  go_enter Tryd.func11, Tryd.ntmps11
  go_wp2_with (go_at_call 13; refine HSC.out.mono ?_; rintro e w' ⟨rfl, rfl⟩)
  have hw1 : (w.alloc (.cells (L.map Value.string).toArray 9)).heap.size = w.heap.size + 1 := by simp
  generalize w.alloc (.cells (L.map Value.string).toArray 9) = w1 at *
  have HW1 := Lib.hid hw1
  clear hw1
  go_loopw [4, 15] (fun v k wr => ∃ (i : Nat) (acc : List P39), k = .int .i64 i ∧ i ≤ L.length ∧ Hid (readL (L.drop i) i acc = readL L 0 []) ∧ Hid (Kd.R k39 39 wr w1.heap.size (fun _ => True) v acc) ∧ Below w1.heap.size w1 wr ∧ Hid (acc.length ≤ i)) (fun _ k _ => L.length - (intOf k).toNat)
  case atStart => exact ⟨0, [], rfl, Nat.zero_le _, (rfl : readL (L.drop 0) 0 [] = readL L 0 []), Kd.R_nil _ _ _ _ _, Below.refl _ _, Nat.le_refl _⟩
  case round =>
    obtain ⟨i, acc, rfl, hi, hrl, hacc, hbw, hai⟩ := hrel
    obtain ⟨wo, rfl⟩ : ∃ wo : World, wo = wr := ⟨_, rfl⟩
    have hbo := hb1.trans (hbw.mono (by have := HW1.out; omega))
    by_cases hlt : i < L.length
    · have hcell : wo.cell? ⟨w.heap.size, i, none⟩ = some (.string (L[i]'hlt)) := (hbw.cell (p := ⟨w.heap.size, i, none⟩) (by have := HW1.out; simp; omega)).trans (hc1.out i hlt)
      have hxs := HP.out _ (List.getElem_mem hlt)
      have HA := Lib.hid (readL_at hlt acc)
      generalize L[i]'hlt = x at *
      have HWC := Lib.hid (words_calls x wo (by omega))
      have Hll := Lib.hid (wordsOf_len x)
      have HWP := Lib.hid (words_pieces x)
      have HLN : Hid (lineOf x i = if (Seq.wordsOf x).length = 0 then some none
        else if hashB (rdOf ByteArray.empty (Seq.wordsOf x) 0) = true then some none
        else if Shapes.rightB (rdOf ByteArray.empty (Seq.wordsOf x) 0) ((Seq.wordsOf x).drop 1) = true then some (some ⟨rdOf ByteArray.empty (Seq.wordsOf x) 0, (Seq.wordsOf x).drop 1, (i : Int)⟩)
        else none) := rfl
      generalize Seq.wordsOf x = ws at *
      go_wp2_with fail
      refine HWC.out.mono ?_
      rintro e w2 ⟨v7, rfl, hr7, hb7⟩
      obtain ⟨A7, c7, rfl⟩ := Kd.R_slice hr7
      have hb2 := hbw.trans (hb7.mono hbw.size)
      by_cases h0 : ws.length = 0
      · have HL0 : Hid (lineOf x i = some none) := by rw [Hid, HLN.out, if_pos h0]
        have hz : ((ws.length : Int) == 0) = true := by rw [h0]; rfl
        have H0 := Lib.hid h0
        clear h0
        go_wp2
        go_roundw
        case rel => exact ⟨i + 1, acc, by go_num, hlt, by rw [Hid, ← hrl.out, HA.out, HL0.out], Kd.R_below hacc.out hb7, hb2, by have := hai.out; rw [Hid]; omega⟩
        case measure => simp [intOf]; omega
      · have h1 : 0 < ws.length := by omega
        have hz : ((ws.length : Int) == 0) = false := by rw [beq_eq_false_iff_ne]; omega
        obtain ⟨g, c8, hv8, hg1, hg2, cells, hgc⟩ := Kd.R_form hr7 h1
        obtain ⟨rfl, rfl⟩ : A7 = some ⟨g, 0, none⟩ ∧ c7 = c8 := by injection hv8 with e1 _ e2; exact ⟨e1, e2⟩
        clear hv8
        have hC7 := (Kd.R_reads' hr7)
        have hcell7 : w2.cell? ⟨g, 0, none⟩ = some (.string (rdOf ByteArray.empty ws 0)) := by
          obtain ⟨ad, e1, e2⟩ := Kd.at_string hC7.2.2 0 (by omega) (by omega)
          cases e1
          exact e2
        obtain ⟨i0, hi0, _, hz1, _⟩ := info_parts Pparse.info9
        obtain ⟨A', hsl, hrd, hle⟩ := print_drop_of (P := Tryd.prog) Value.string ByteArray.empty 29 9 .i64 Tryd.underlying29 hi0 hz1 (some ⟨g, 0, none⟩) c7 ws 1 (by omega) (by omega) hC7.2.1
        simp only [Int.toNat_one] at hsl hrd hle
        have HL1 : Hid (lineOf x i = if hashB (rdOf ByteArray.empty ws 0) = true then some none
          else if Shapes.rightB (rdOf ByteArray.empty ws 0) (ws.drop 1) = true then some (some ⟨rdOf ByteArray.empty ws 0, ws.drop 1, (i : Int)⟩)
          else none) := by rw [Hid, HLN.out, if_neg (by omega)]
        have hwp := HWP.out
        have htm : ∀ y ∈ ws.drop 1, y.size ≤ 9223372036854775807 := fun y hy => by have := hwp y (List.mem_of_mem_drop hy); omega
        have Htm := Lib.hid htm
        have Hrd := Lib.hid hrd
        generalize rdOf ByteArray.empty ws 0 = w0 at *
        have Htl : Hid ((ws.drop 1).length + 1 = ws.length) := by rw [Hid, List.length_drop]; omega
        generalize ws.drop 1 = tl at *
        clear hwp hrd htm
        cases hh : hashB w0 with
        | true =>
          have HL0 : Hid (lineOf x i = some none) := by rw [Hid, HL1.out, if_pos hh]
          have Hh := Lib.hid hh
          clear hh
          go_wp2_with (go_at_call 15; refine (Tryd.strings_HasPrefix w0 ⟨#[35]⟩ w2).mono ?_; rw [show Lib.hasPrefix w0.data.toList (⟨#[35]⟩ : ByteArray).data.toList = true from Hh.out]; rintro e w3 ⟨rfl, rfl⟩)
          go_roundw
          case rel => exact ⟨i + 1, acc, by go_num, hlt, by rw [Hid, ← hrl.out, HA.out, HL0.out], Kd.R_below hacc.out hb7, hb2, by have := hai.out; rw [Hid]; omega⟩
          case measure => simp [intOf]; omega
        | false =>
          have Hh := Lib.hid hh
          clear hh
          go_wp2_with (go_at_call 15; refine (Tryd.strings_HasPrefix w0 ⟨#[35]⟩ w2).mono ?_; rw [show Lib.hasPrefix w0.data.toList (⟨#[35]⟩ : ByteArray).data.toList = false from Hh.out]; rintro e w3 ⟨rfl, rfl⟩)
          have hF : Kd.F Kd.string w3 (fun k => k = g) A' tl.length tl :=
            Kd.F_imp (Kd.R_F (ok := fun k => k = g) ⟨fun k hk => by simpa [Value.ownBlock] using hk.symm, hr7.2⟩) (fun W' h => Kd.C_of_reads (Hrd.out W' (Kd.reads_of_C h)))
          have HF := Lib.hid hF
          have HB7 := Lib.hid hb7
          have Hg1 := Lib.hid hg1
          go_still_tail 5, (by kernel_rfl)
          change wpList _ _ _ _ _ w3.drew
          have hFd := Kd.F_drew HF.out
          have hb7d := hb7.drew
          have hcd : w3.drew.cell? ⟨g, 0, none⟩ = some (.string w0) := hcell7
          have hgd : w3.drew.heap[g]? = some (.cells cells 9 (0, 0)) := hgc
          clear HF hF hb7 hcell7 hgc hr7 hC7 hg2 hb2 HB7
          generalize w3.drew = w5 at *
          have HFd := Lib.hid hFd
          have hb5 := hbw.trans (hb7d.mono hbw.size)
          have HT5 := Lib.hid (Cuts.tabs_below HT.out (hbo.trans (hb7d.mono hbo.size)))
          have hg5 : g < w5.heap.size := (Array.getElem?_eq_some_iff.1 hgd).1
          have HRW := Lib.hid (Shapes.right_walk w0 tl A' (c7 - 1) w5 (Kd.F_now HFd.out) Htm.out HT5.out)
          clear hFd
          cases hr : Shapes.rightB w0 tl with
          | false =>
            have HL0 : Hid (lineOf x i = none) := by rw [Hid, HL1.out, if_neg (by rw [Hh.out]; simp), if_neg (by rw [hr]; simp)]
            have Hr := Lib.hid hr
            clear hr
            go_wp2_with (go_at_call 16; refine HRW.out.mono ?_; rw [Hr.out]; rintro e w4 ⟨rfl, hb4⟩)
            go_ret2
            refine (HRL.out _ _).2 ⟨(hbo.trans (hb7d.mono hbo.size)).trans (hb4.mono (hbo.trans (hb7d.mono hbo.size)).size), ?_⟩
            rw [← hrl.out, HA.out, HL0.out]
            rfl
          | true =>
            have HL0 : Hid (lineOf x i = some (some ⟨w0, tl, (i : Int)⟩)) := by rw [Hid, HL1.out, if_neg (by rw [Hh.out]; simp), if_pos hr]
            have Hr := Lib.hid hr
            clear hr
            go_wp2_with (go_at_call 16; refine HRW.out.mono ?_; rw [Hr.out]; rintro e w4 ⟨rfl, hb4⟩)
            have hF4 : Kd.F Kd.string w4 (fun k => k = g) A' tl.length tl := Kd.F_below HFd.out hb4
            have hg4 : w4.heap[g]? = some (.cells cells 9 (0, 0)) := (hb4.block g hg5).trans hgd
            have hc4 : w4.cell? ⟨g, 0, none⟩ = some (.string w0) := (hb4.cell (p := ⟨g, 0, none⟩) hg5).trans hcd
            have hbw4 := hb5.trans (hb4.mono hb5.size)
            have hb74 := hb7d.trans (hb4.mono hb7d.size)
            clear hcd hgd hb4 hb7d hb5
            have hacc6 : Kd.R k39 39 w4 w1.heap.size (fun _ => True) u4 acc := Kd.R_below hacc.out hb74
            have hM : k39.M w4 w1.heap.size (fun k => k = g) ⟨w0, tl, (i : Int)⟩ [.string w0, .slice A' tl.length (c7 - 1), .int .i64 (i : Int)] := by
              refine ⟨[.string w0, .slice A' tl.length (c7 - 1)], [.int .i64 (i : Int)], rfl, ⟨[.string w0], [.slice A' tl.length (c7 - 1)], rfl, rfl, A', c7 - 1, rfl, hle, Kd.F_mono hF4 (fun k hk => ⟨hk, ?_⟩)⟩, rfl⟩
              subst hk
              exact ⟨Nat.le_trans hbw.size Hg1.out, (Array.getElem?_eq_some_iff.1 hg4).1, cells, hg4⟩
            have hne : some g ≠ u4.ownBlock := fun e => by have := Kd.R_lt hacc.out g e.symm; have := Hg1.out; omega
            have Hne := Lib.hid hne
            have hal := hai.out
            have hsz6 := hbw4.size
            have HM := Lib.hid (Kd.M_below hM (Below.refl _ w4).drew)
            have HA6 := Lib.hid (Kd.R_drew hacc6)
            have Hb4 := Lib.hid hbw4.drew
            clear hM hacc6 hF4 hg4 hbw4 hne hb74
            go_region_law (rw [show (w4.alloc (.cells #[.string w0, .slice A' tl.length (c7 - 1), .int .i64 (i : Int)] 39)).drew = w4.drew.alloc (.cells [.string w0, .slice A' tl.length (c7 - 1), .int .i64 (i : Int)].toArray 39) from rfl]; refine Kd.R_append_step k39 w1.heap.size (by rfl) (.tmp 41) (.tmp 50) 35 39 _ 48 (by rfl) Tryd.underlying35 info39 (by kernel_rfl) (by decide) (by decide) u4 acc _ _ (fun _ => True) (fun k => k = g) (by rfl) (by rfl) HM.out (fun k hk => ⟨trivial, by rw [hk]; exact Hne.out⟩) (fun _ _ => trivial) HA6.out Hb4.out hsz6 (by omega) ?_; intro v1 w7 hR7 hB7 hG7 _)
            go_wp2
            go_roundw
            case rel => exact ⟨i + 1, acc ++ [(⟨w0, tl, (i : Int)⟩ : P39)], by go_num, hlt, by rw [Hid, ← hrl.out, HA.out, HL0.out], hR7, hB7, by rw [Hid, List.length_append, List.length_singleton]; omega⟩
            case measure => simp [intOf]; omega
    · go_wp2
      go_ret2
      refine (HRL.out _ _).2 ⟨hbo, ?_⟩
      rw [← hrl.out, readL_end (by omega)]
      exact ⟨_, rfl, Kd.R_lower hacc.out (by have := HW1.out; omega)⟩
end Read
end Go.Proofs.YtmgaigbmeenjhaaDoor
