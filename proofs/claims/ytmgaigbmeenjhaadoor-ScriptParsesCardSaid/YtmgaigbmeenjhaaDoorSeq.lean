/- The walks of strings.SplitSeq at a blank (functions 22, 33, 39) and of script.words (function 14): the words of a text, in order. -/
import Derived.Test.YtmgaigbmeenjhaaDoorCuts
import Derived.Test.YtmgaigbmeenjhaaDoorPparsex0
import Derived.RangeFuncNested
import Derived.RangeFuncBound
import Derived.RangeFuncCalls
import Derived.RangeFuncLeaves
import Derived.RangeFuncBox
import Derived.Shelf.Abstract
import Derived.Shelf.RegionOpen
import Derived.WalkKit
import Derived.OwnWalkIn
import Derived.TacticsInMore
import Derived.LoopNIn
import Derived.LoopIn
import Derived.Maps.AppendAt
namespace Go.Proofs.YtmgaigbmeenjhaaDoor
open Go.RowKit Go.Proofs.YtmgaigbmeenjhaaDoorW.PrintWords
namespace Seq
attribute [local go_sem] Oper.semAt_some

/-! ### What a text is between bytes of one kind -/
def spl (c : UInt8) : List UInt8 → List (List UInt8)
  | [] => [[]]
  | b :: l => if b = c then [] :: spl c l else match spl c l with
    | [] => [[b]]
    | h :: t => (b :: h) :: t
def sp (c : UInt8) (s : ByteArray) : List ByteArray := (spl c s.data.toList).map fun l => ⟨l.toArray⟩
theorem spl_miss (c : UInt8) : ∀ l : List UInt8, Lib.indexByte l c = -1 → spl c l = [l]
  | [], _ => rfl
  | b :: l, h => by
    unfold Lib.indexByte at h
    by_cases hb : (b == c) = true
    · rw [if_pos hb] at h; cases h
    · rw [if_neg hb] at h
      have hge := Lib.indexByte_ge l c
      have hm : Lib.indexByte l c = -1 := by
        by_cases e : (Lib.indexByte l c == -1) = true
        · exact beq_iff_eq.1 e
        · rw [if_neg e] at h; omega
      have hb' : b ≠ c := by simpa using hb
      simp [spl, hb', spl_miss c l hm]
theorem spl_hit (c : UInt8) : ∀ (l : List UInt8) (i : Nat), Lib.indexByte l c = (i : Int) → i < l.length ∧ spl c l = l.take i :: spl c (l.drop (i + 1))
  | [], i, h => by unfold Lib.indexByte at h; omega
  | b :: l, i, h => by
    unfold Lib.indexByte at h
    by_cases hb : (b == c) = true
    · rw [if_pos hb] at h
      obtain rfl : i = 0 := by omega
      have hb' : b = c := by simpa using hb
      simp [spl, hb']
    · rw [if_neg hb] at h
      have hge := Lib.indexByte_ge l c
      have hb' : b ≠ c := by simpa using hb
      by_cases e : (Lib.indexByte l c == -1) = true
      · rw [if_pos e] at h; omega
      · rw [if_neg e] at h
        have e' : Lib.indexByte l c ≠ -1 := by simpa using e
        obtain ⟨j, rfl⟩ : ∃ j, i = j + 1 := ⟨i - 1, by omega⟩
        obtain ⟨h1, h2⟩ := spl_hit c l j (by omega)
        refine ⟨by simp; omega, ?_⟩
        simp [spl, hb', h2]
theorem sp_miss {c : UInt8} {s : ByteArray} (h : Lib.indexByte s.data.toList c = -1) : sp c s = [s] := by
  unfold sp; rw [spl_miss c _ h]; simp
theorem sp_hit {c : UInt8} {s : ByteArray} {i : Nat} (h : Lib.indexByte s.data.toList c = (i : Int)) : i < s.size ∧ sp c s = s.extract 0 i :: sp c (s.extract (i + 1) s.size) := by
  obtain ⟨h1, h2⟩ := spl_hit c _ i h
  refine ⟨by simpa using h1, ?_⟩
  unfold sp
  rw [h2, List.map_cons]
  have e1 : (s.extract (i + 1) s.size).data.toList = s.data.toList.drop (i + 1) := Lib.extract_to_end s (i + 1)
  have e0 : (⟨(s.data.toList.take i).toArray⟩ : ByteArray) = s.extract 0 i := by
    apply ByteArray.ext
    apply Array.ext'
    rw [Lib.extract_from_zero]
  rw [e1, e0]

/-! ### The iterator: it keeps what is left of the text in a box of its own -/
def Off (Bs : Nat) (J : List ByteArray → World → Prop) : Prop := ∀ s W W', J s W → W.grownBy W' (some Bs) → J s W'
def Kept3 (Bp Bs Bv : Nat) (W W' : World) : Prop := W'.heap[Bp]? = W.heap[Bp]? ∧ W'.heap[Bs]? = W.heap[Bs]? ∧ W'.heap[Bv]? = W.heap[Bv]?

def boxSize (W : World) (B : Nat) : Nat := match W.cell? ⟨B, 0, none⟩ with
  | some (.string t) => t.size
  | _ => 0
theorem boxSize_of {W : World} {B : Nat} {t : TypeId} {s : ByteArray} (h : Boxed W B t (.string s)) : boxSize W B = s.size := by unfold boxSize; rw [h.cell]

set_option maxRecDepth 100000 in
set_option maxHeartbeats 2000000 in
theorem seq1_walk (n l Bp Bs Bv : Nat) (s0 : ByteArray) (J : List ByteArray → World → Prop) (hJ : Off Bs J)
    (hY : ∀ pre x W, J pre W → (∃ post, sp 32 s0 = pre ++ x :: post) → YieldAt Fence.wide (n - 1) Tryd.prog l #[.string x] W fun e W' => e = .returned (.bool true) ∧ J (pre ++ [x]) W' ∧ Kept3 Bp Bs Bv W W')
    (W : World) (hp : Boxed W Bp 9 (.string ⟨#[32]⟩)) (hs : Boxed W Bs 9 (.string s0)) (hv : Boxed W Bv 3 (.int .i64 0)) (hn1 : Bp ≠ Bs) (hn2 : Bv ≠ Bs) (h0 : J [] W) (hs0 : s0.size ≤ 9223372036854775807) :
    CallsIn Fence.wide n Tryd.prog 39 #[.func (.yield l) #[] #[], .pointer (some ⟨Bp, 0, none⟩), .pointer (some ⟨Bs, 0, none⟩), .pointer (some ⟨Bv, 0, none⟩)] W fun e W' => (∃ v, e = .returned v) ∧ J (sp 32 s0) W' := by
  have HJ := Lib.hid hJ
  have HY := Lib.hid hY
  have H0 := Lib.hid h0
  have HP := Lib.hid hp
  have HS := Lib.hid hs
  have HV := Lib.hid hv
  have cp := hp.cell
  clear hJ hY h0 hp hs hv
  refine callsIn_of_wp Tryd.func39 rfl trivial ?_ rfl
  simp only [Tryd.ntmps39, List.size_toArray, List.length_cons, List.length_nil, Nat.reduceAdd, Nat.reduceSub, Array.replicate_succ, Array.replicate_zero, List.push_toArray, List.append_toArray, List.nil_append, List.cons_append]
  have cs := HS.out.cell
  have cv := HV.out.cell
  gi_wp2
  gi_loopw [] (fun wr => ∃ (pre : List ByteArray) (r : ByteArray), Hid (Boxed wr Bs 9 (.string r)) ∧ Hid (Boxed wr Bp 9 (.string ⟨#[32]⟩)) ∧ Hid (Boxed wr Bv 3 (.int .i64 0)) ∧ Hid (J pre wr) ∧ Hid (pre ++ sp 32 r = sp 32 s0) ∧ r.size ≤ s0.size) (fun wr => boxSize wr Bs)
  case atStart => exact ⟨[], s0, HS, HP, HV, H0, (rfl : [] ++ sp 32 s0 = sp 32 s0), Nat.le_refl _⟩
  case round =>
    obtain ⟨pre, r, hs1, hp1, hv1, hJ1, hsp, hrs⟩ := hrel
    clear cp cs cv
    have cp := hp1.out.cell
    have cs := hs1.out.cell
    have cv := hv1.out.cell
    have fs := hs1.out.frozen
    by_cases hm : Lib.indexByte r.data.toList 32 = -1
    · have Hm := Lib.hid hm
      clear hm
      have hy := HY.out pre r wr hJ1.out ⟨[], by rw [← hsp.out, sp_miss Hm.out]⟩
      obtain ⟨fn, tmps, assign, body, hy, hR⟩ := hy
      have HR := Lib.hid hR
      clear hR
      gi_wp2_with (refine ⟨trivial, fun h => (by cases h), ?_⟩; gi_at_call 32; refine (callsIn_wide.2 (Tryd.strings_Index_one r 32 wr)).mono ?_; rw [Hm.out]; rintro e w2 ⟨rfl, rfl⟩)
      refine ⟨fun h => (by cases h), ?_⟩
      refine HR.out.mono ?_
      rintro e W3 ⟨rfl, hJ3, hk3⟩
      gi_wp2
      go_end0
      exact ⟨⟨_, rfl⟩, by rw [← hsp.out, sp_miss Hm.out]; exact hJ3⟩
    · have hge := Lib.indexByte_ge r.data.toList 32
      obtain ⟨i, hi⟩ : ∃ i : Nat, Lib.indexByte r.data.toList 32 = (i : Int) := ⟨(Lib.indexByte r.data.toList 32).toNat, by omega⟩
      obtain ⟨hir, hsp2⟩ := sp_hit hi
      have Hi := Lib.hid hi
      have Hsp2 := Lib.hid hsp2
      clear hi hm hge hsp2
      have hy := HY.out pre (r.extract 0 i) wr hJ1.out ⟨_, by rw [← hsp.out, Hsp2.out]⟩
      obtain ⟨fn, tmps, assign, body, hy, hR⟩ := hy
      have HR := Lib.hid hR
      have hrm : r.size ≤ 9223372036854775807 := by omega
      have hd0 : decide ((i : Int) < 0) = false := by simp
      clear hR
      gi_wp2_with (refine ⟨trivial, fun h => (by cases h), ?_⟩; gi_at_call 32; refine (callsIn_wide.2 (Tryd.strings_Index_one r 32 wr)).mono ?_; rw [Hi.out]; rintro e w2 ⟨rfl, rfl⟩)
      refine ⟨fun h => (by cases h), ?_⟩
      refine HR.out.mono ?_
      rintro e W3 ⟨rfl, hJ3, hk3⟩
      have hs3 : Boxed W3 Bs 9 (.string r) := hk3.2.1.trans hs1.out
      have hp3 : Boxed W3 Bp 9 (.string ⟨#[32]⟩) := hk3.1.trans hp1.out
      have hv3 : Boxed W3 Bv 3 (.int .i64 0) := hk3.2.2.trans hv1.out
      have HJ3 := Lib.hid hJ3
      have cs3 := hs3.cell
      have cp3 := hp3.cell
      have fs3 := hs3.frozen
      have HS3 := Lib.hid hs3
      have HP3 := Lib.hid hp3
      have HV3 := Lib.hid hv3
      have Hbs : Hid (boxSize w2 Bs = r.size) := boxSize_of hs1.out
      clear hs3 hp3 hv3 hJ3 hk3 cp cs cv fs
      have hsz : (r.extract (i + 1) r.size).size = r.size - (i + 1) := by rw [ByteArray.size_extract]; omega
      gi_wp2
      refine ⟨⟨pre ++ [r.extract 0 i], r.extract (i + 1) r.size, HS3.out.set _, HP3.out.kept (grownBy_setCell' _ _ _) (by simpa using hn1), HV3.out.kept (grownBy_setCell' _ _ _) (by simpa using hn2), HJ.out _ _ _ HJ3.out (grownBy_setCell' _ _ _), ?_, by rw [hsz]; omega⟩, ?_⟩
      · rw [Hid, ← hsp.out, Hsp2.out, List.append_assoc, List.singleton_append]
      · rw [boxSize_of (HS3.out.set (.string (r.extract (i + 1) r.size))), Hbs.out, hsz]; omega

/-! ### 'for w := range strings.SplitSeq(s, " ") { .. }', a body that always goes on -/
theorem rangeSp {g : Operand} {ps : Array Tmp} {assign body : Code} {Q : Exit → Act → World → Prop} {a : Act} {w : World} {n Bp Bs Bv : Nat} {s : ByteArray}
    (hg : a.eval g = .func (.func 39) #[] #[.pointer (some ⟨Bp, 0, none⟩), .pointer (some ⟨Bs, 0, none⟩), .pointer (some ⟨Bv, 0, none⟩)])
    (hp : Boxed w Bp 9 (.string ⟨#[32]⟩)) (hs : Boxed w Bs 9 (.string s)) (hv : Boxed w Bv 3 (.int .i64 0)) (hn1 : Bp ≠ Bs) (hn2 : Bv ≠ Bs) (hs0 : s.size ≤ 9223372036854775807) (hps : ps.size = 1)
    (I : List ByteArray → World → Prop)
    (hI : ∀ pre W W' row, I pre W → W.grownBy W' row → (∀ r, row = some r → r = Bs ∨ (w.heap.size ≤ r ∧ ∃ o : Obj, W.heap[r]? = some o ∧ o.isCells = false)) → I pre W')
    (h0 : I [] w) (a₁ : ByteArray → Act)
    (hassign : ∀ (l : Nat) (x : ByteArray) (W : World) (K : Act → World → Prop), K (a₁ x) W →
      assign.wpIn (Fence.wide.inRound l) (n - 1 - 1) Tryd.prog (Exit.then K (fun _ _ _ => False)) { tmps := (ps.zip #[.string x]).foldl (fun t (p, v) => t.setIfInBounds p v) a.tmps, defers := [] } W)
    (hbody : ∀ (l : Nat) (pre : List ByteArray) (x : ByteArray) (W : World), I pre W → (∃ post, sp 32 s = pre ++ x :: post) →
      body.wpIn (Fence.wide.inRound l) (n - 1 - 1) Tryd.prog (fun e _ W' => e = .normal ∧ KeepsFrom w.heap.size W W' ∧ Kept3 Bp Bs Bv W W' ∧ I (pre ++ [x]) W') (a₁ x) W)
    (hdone : ∀ (D : Nat) (W : World), w.heap.size ≤ D → I (sp 32 s) W → W.heap[D]? = some (.deferred (some [])) → Q .normal { a with defers := { target := .collected D, args := #[] } :: a.defers } W) :
    (Code.rangeFunc g ps assign body).wpIn Fence.wide n Tryd.prog Q a w := by
  have lp := hp.lt
  have ls := hs.lt
  have lv := hv.lt
  refine wpIn_rangeFunc ?_
  intro fn _
  -- the loop's record, and the two blocks that the statement lays
  obtain ⟨rec, hrec⟩ : ∃ rec : LoopState → Option Code → Loop, rec = fun st pe => { state := st, pending := pe, fn, tmps := a.tmps, params := ps, assign, body, defers := w.heap.size } := ⟨_, rfl⟩
  obtain ⟨W1, hW1⟩ : ∃ W1, (w.alloc (.deferred (some []))).alloc (.loop (rec .ready none)) = W1 := ⟨_, rfl⟩
  have hR1 : W1.heap[w.heap.size + 1]? = some (.loop (rec .ready none)) := by
    rw [← hW1]; have := World.alloc_heap_new (w.alloc (.deferred (some []))) (.loop (rec .ready none)); rwa [World.size_alloc] at this
  have hD1 : W1.heap[w.heap.size]? = some (.deferred (some [])) := by
    rw [← hW1]; exact (Below.heap_alloc _ _ _ (by simp)).trans (World.alloc_heap_new w _)
  have hI1 : I [] W1 := by
    rw [← hW1]
    exact hI _ _ _ none (hI _ _ _ none h0 (World.grownBy_alloc w _ none) (fun r e => by cases e)) (World.grownBy_alloc _ _ none) (fun r e => by cases e)
  have old : ∀ {B : Nat} {t : TypeId} {v : Value}, Boxed w B t v → Boxed W1 B t v := fun h => by rw [← hW1]; exact (h.alloc _).alloc _
  have putI : ∀ {pre : List ByteArray} {W : World} {k : Nat} {o : Obj} (o' : Obj), I pre W → w.heap.size ≤ k → W.heap[k]? = some o → o.isCells = false → I pre (W.putObj k o') :=
    fun o' hi hk ho hc => hI _ _ _ (some _) hi (grownBy_putObj' _ _ _) (fun r e => by cases e; exact .inr ⟨hk, _, ho, hc⟩)
  refine ⟨w.heap.size + 1, [{ target := .collected w.heap.size, args := #[] }], W1, { target := .fn (.func 39) #[.pointer (some ⟨Bp, 0, none⟩), .pointer (some ⟨Bs, 0, none⟩), .pointer (some ⟨Bv, 0, none⟩)], args := #[.func (.yield (w.heap.size + 1)) #[] #[]] }, W1, 39,
    #[.func (.yield (w.heap.size + 1)) #[] #[], .pointer (some ⟨Bp, 0, none⟩), .pointer (some ⟨Bs, 0, none⟩), .pointer (some ⟨Bv, 0, none⟩)], W1, ?_, ?_, fun _ _ => trivial, ?_, fun h => (by cases h), ?_⟩
  · rw [← hW1, hrec]; exact run_enterLoop_outer _ _ _ _ _
  · simp only [resolve, hg]
    simp [go_sem]
  · simp [invoke, go_sem]
  · refine (seq1_walk (n - 1) (w.heap.size + 1) Bp Bs Bv s
      (fun pre W => I pre W ∧ W.heap[w.heap.size + 1]? = some (.loop (rec .ready none)) ∧ W.heap[w.heap.size]? = some (.deferred (some []))) ?_ ?_ W1 (old hp) (old hs) (old hv) hn1 hn2 ⟨hI1, hR1, hD1⟩ hs0).mono ?_
    · rintro pre W W' ⟨hi, hr, hd⟩ hgr
      have keep : ∀ k o, W.heap[k]? = some o → k ≠ Bs → W'.heap[k]? = some o := fun k o hk hne => (hgr.block k (Array.getElem?_eq_some_iff.1 hk).1 (by simpa using hne)).trans hk
      exact ⟨hI _ _ _ _ hi hgr (fun r e => by cases e; exact .inl rfl), keep _ _ hr (by omega), keep _ _ hd (by omega)⟩
    · rintro pre x W ⟨hi, hr, hd⟩ hpost
      have hlt : w.heap.size + 1 < W.heap.size := (Array.getElem?_eq_some_iff.1 hr).1
      have hy := run_yield (P := Tryd.prog) (args := #[.string x]) hr (by rw [hrec]; simp [hps])
      rw [hrec] at hy
      refine ⟨fn, _, assign, body, hy, roundIn_of_wpIn trivial (hassign _ x W _ ⟨_, run_beginRound hr (by rw [hrec]), ?_⟩)⟩
      have hr2 : (W.putObj (w.heap.size + 1) (.loop { rec .ready none with state := .busy })).heap[w.heap.size + 1]? = some (.loop { rec .ready none with state := .busy }) := World.putObj_heap_same hlt
      have hd2 : (W.putObj (w.heap.size + 1) (.loop { rec .ready none with state := .busy })).heap[w.heap.size]? = some (.deferred (some [])) := (World.putObj_heap_other (by omega)).trans hd
      refine wpIn_mono (hbody _ pre x _ (putI _ hi (by omega) hr rfl) hpost) ?_
      rintro e a3 W3 ⟨rfl, hk3, hkp, hi3⟩
      have hr3 := hk3.same _ _ (by omega) hr2 rfl
      have hd3 := hk3.same _ _ (Nat.le_refl _) hd2 rfl
      have hend := run_endRound (P := Tryd.prog) none hr3
      rw [hrec] at hend
      have other : ∀ B, B < w.heap.size → ∀ V : World, ∀ o, (V.putObj (w.heap.size + 1) o).heap[B]? = V.heap[B]? := fun B hB V o => World.putObj_heap_other (by omega)
      refine ⟨_, _, hend, rfl, ⟨putI _ hi3 (by omega) hr3 rfl, ?_, (World.putObj_heap_other (by omega)).trans hd3⟩, ?_⟩
      · rw [hrec]; exact World.putObj_heap_same (Array.getElem?_eq_some_iff.1 hr3).1
      · exact ⟨(other _ lp _ _).trans (hkp.1.trans (other _ lp _ _)), (other _ ls _ _).trans (hkp.2.1.trans (other _ ls _ _)), (other _ lv _ _).trans (hkp.2.2.trans (other _ lv _ _))⟩
    · rintro e W2 ⟨⟨v, rfl⟩, hi, hr, hd⟩
      have hend := run_endLoop (P := Tryd.prog) hr (by rw [hrec]; simp)
      rw [hrec] at hend
      exact ⟨none, _, hend, hdone _ _ (Nat.le_refl _) (putI _ hi (by omega) hr rfl) ((World.putObj_heap_other (by omega)).trans hd)⟩

/-! ### strings.SplitSeq, script.words -/
set_option maxHeartbeats 1000000 in
theorem splitSeq_walk (n : Nat) (s : ByteArray) (w : World) :
    CallsIn Fence.wide n Tryd.prog 22 #[.string s, .string ⟨#[32]⟩] w fun e w' => e = .returned (.func (.func 39) #[] #[.pointer (some ⟨w.heap.size + 1, 0, none⟩), .pointer (some ⟨w.heap.size, 0, none⟩), .pointer (some ⟨w.heap.size + 1 + 1, 0, none⟩)]) ∧ w' = ((w.alloc (.cells #[.string s] 9)).alloc (.cells #[.string ⟨#[32]⟩] 9)).alloc (.cells #[.int .i64 0] 3) := by
  refine callsIn_wide.2 ?_
  go_enter Tryd.func22, Tryd.ntmps22
  go_wp2
  go_ret
  exact ⟨rfl, rfl⟩
def keep (pre : List ByteArray) : List ByteArray := pre.filter fun x => !x.toList.isEmpty
def wordsOf (s : ByteArray) : List ByteArray := keep (sp 32 s)
theorem keep_hit (pre : List ByteArray) {x : ByteArray} (h : x.toList.isEmpty = false) : keep (pre ++ [x]) = keep pre ++ [x] := by simp [keep, h]
theorem keep_miss (pre : List ByteArray) {x : ByteArray} (h : x.toList.isEmpty = true) : keep (pre ++ [x]) = keep pre := by simp [keep, h]
theorem keep_le (pre : List ByteArray) : (keep pre).length ≤ pre.length := List.length_filter_le _ _
theorem spl_len (c : UInt8) : ∀ l : List UInt8, (spl c l).length ≤ l.length + 1
  | [] => Nat.le_refl _
  | b :: l => by
    have ih := spl_len c l
    unfold spl
    split
    · simp only [List.length_cons]; omega
    · split
      · simp
      · rename_i h t e
        rw [e] at ih
        simp only [List.length_cons] at ih ⊢; omega
theorem sp_len (c : UInt8) (s : ByteArray) : (sp c s).length ≤ s.size + 1 := by
  unfold sp
  rw [List.length_map]
  have := spl_len c s.data.toList
  simpa using this
set_option maxRecDepth 100000 in
set_option maxHeartbeats 4000000 in
theorem words_walk (s : ByteArray) (w : World) (hs : s.size ≤ 1048576) :
    CallsIn Fence.wide 6 Tryd.prog 14 #[.string s] w fun e w' => ∃ v, e = .returned v ∧ w'.ownsRow (w.heap.size + 4) 9 1 v (wordsOf s).length ((wordsOf s).map Value.string) ∧ Below w.heap.size w w' := by
  obtain ⟨i0, hi, hz0, hz1, hz2⟩ := info_parts Pparse.info9
  have hlen := sp_len 32 s
  refine callsIn_of_wp_marks Tryd.func14 rfl trivial ?_ rfl
  simp only [Tryd.ntmps14, List.size_toArray, List.length_cons, List.length_nil, Nat.reduceAdd, Nat.reduceSub, Array.replicate_succ, Array.replicate_zero, List.push_toArray, List.append_toArray, List.nil_append, List.cons_append]
  gi_wp2_with (refine ⟨trivial, ?_⟩; gi_at_call 22; refine (splitSeq_walk _ s _).mono ?_; rintro e w' ⟨rfl, rfl⟩)
  have bO : Boxed (w.alloc (.cells #[.slice none 0 0] 29)) w.heap.size 29 (.slice none 0 0) := Boxed.new w 29 (.slice none 0 0)
  have bS := Boxed.new (w.alloc (.cells #[.slice none 0 0] 29)) 9 (.string s)
  have bP := Boxed.new ((w.alloc (.cells #[.slice none 0 0] 29)).alloc (.cells #[.string s] 9)) 9 (.string ⟨#[32]⟩)
  have bV := Boxed.new (((w.alloc (.cells #[.slice none 0 0] 29)).alloc (.cells #[.string s] 9)).alloc (.cells #[.string ⟨#[32]⟩] 9)) 3 (.int .i64 0)
  have hB0 : Below w.heap.size w ((((w.alloc (.cells #[.slice none 0 0] 29)).alloc (.cells #[.string s] 9)).alloc (.cells #[.string ⟨#[32]⟩] 9)).alloc (.cells #[.int .i64 0] 3)) := ((((Below.refl _ w).alloc (Nat.le_refl _) _).alloc (by simp) _).alloc (by simp; omega) _).alloc (by simp; omega) _
  have bO2 := ((bO.alloc (.cells #[.string s] 9)).alloc (.cells #[.string ⟨#[32]⟩] 9)).alloc (.cells #[.int .i64 0] 3)
  have bS2 := (bS.alloc (.cells #[.string ⟨#[32]⟩] 9)).alloc (.cells #[.int .i64 0] 3)
  have bP2 := bP.alloc (.cells #[.int .i64 0] 3)
  simp only [World.size_alloc] at bS2 bP2 bV
  have hsz : ((((w.alloc (.cells #[.slice none 0 0] 29)).alloc (.cells #[.string s] 9)).alloc (.cells #[.string ⟨#[32]⟩] 9)).alloc (.cells #[.int .i64 0] 3)).heap.size = w.heap.size + 4 := by simp
  generalize (((w.alloc (.cells #[.slice none 0 0] 29)).alloc (.cells #[.string s] 9)).alloc (.cells #[.string ⟨#[32]⟩] 9)).alloc (.cells #[.int .i64 0] 3) = w4 at *
  clear bO bS bP
  refine rangeSp (Bp := w.heap.size + 1 + 1) (Bs := w.heap.size + 1) (Bv := w.heap.size + 1 + 1 + 1) (s := s) rfl bP2 bS2 bV (by omega) (by omega) (by omega) rfl
    (fun pre W => (∃ v, Boxed W w.heap.size 29 v ∧ W.ownsRow (w.heap.size + 4) 9 1 v (keep pre).length ((keep pre).map Value.string)) ∧ Below w.heap.size w W ∧ w.heap.size + 4 ≤ W.heap.size) ?own
    ⟨⟨_, bO2, World.ownsRow_nil _ _ _ _⟩, hB0, by omega⟩
    (fun x => { tmps := #[.string s, undef, .slice none 0 0, .pointer (some ⟨w.heap.size, 0, none⟩), .string x, .string s, .func (.func 39) #[] #[.pointer (some ⟨w.heap.size + 1 + 1, 0, none⟩), .pointer (some ⟨w.heap.size + 1, 0, none⟩), .pointer (some ⟨w.heap.size + 1 + 1 + 1, 0, none⟩)], .string x, undef, undef, undef, undef, undef, undef, undef], defers := [] }) ?assign ?body ?done
  case own =>
    rintro pre W W' row ⟨⟨v, hb, ho⟩, hB, hS⟩ hg hr
    refine ⟨⟨v, hb.kept hg (fun e => ?_), ho.kept hg ?_⟩, hB.grown hg hB.size (fun k e => ?_), Nat.le_trans hS hg.size⟩
    · rcases hr _ e.symm with h | ⟨h, _⟩ <;> omega
    · rcases ho.2 with ⟨rfl, _⟩ | ⟨g, cap, cur, rfl, hgb, hgh, _⟩
      · exact .inl rfl
      · refine .inr fun e => ?_
        rcases hr g (by simpa [Value.ownBlock] using e.symm) with h | ⟨_, o, ho', hc'⟩
        · omega
        · rw [hgh] at ho'; cases ho'; cases hc'
    · rcases hr _ e with h | ⟨h, _⟩ <;> omega
  case assign =>
    intro l x W K hK
    gi_wp2
    exact hK
  case body =>
    rintro l pre x W ⟨⟨v, hb, ho⟩, hB, hS⟩ ⟨post, hpost⟩
    have hc := hb.cell
    have hpl := keep_le pre
    have hpre : pre.length + 1 ≤ 1048577 := by
      have := congrArg List.length hpost
      simp at this
      omega
    have Hpost := Lib.hid hpost
    clear hpost
    cases hx : x.toList.isEmpty with
    | true =>
      have hx1 : x.toList = [] := by simpa using hx
      have Hk := Lib.hid (keep_miss pre hx)
      gi_wp2
      exact ⟨KeepsFrom.refl _ _, ⟨rfl, rfl, rfl⟩, v, hb, by rw [Hk.out]; exact ho⟩
    | false =>
      have Hk := Lib.hid (keep_hit pre hx)
      gi_wp2_with (gi_at_builtin; refine wpListIn_append_own _ rfl _ _ 29 rfl (w.heap.size + 4) 9 i0 (.string ⟨#[]⟩) 1 16 Tryd.underlying29 hi hz0 hz1 hz2 rfl (by decide) _ _ _ rfl (ho.alloc _) ⟨W.heap.size, 0, none⟩ 1 1 [.string x] rfl rfl (cell_one_new _ _ _) (by simp [Value.oneCell']) (by unfold maxLen; omega) (by omega) (by simp; omega) ?_; intro v' w1 hown' hgrow _; obtain ⟨g', cap', rfl⟩ := ownsRow_succ hown'; obtain ⟨hv1, hv2, _, hk2, hb2⟩ := hb.appended (by decide) (own_weaken ho (Nat.le_add_right _ 4)) hB.size (Nat.le_refl _) (own_weaken hown' (Nat.le_add_right _ 4)) hgrow; have hr2 := hown'.kept (grownBy_setCell' w1 w.heap.size (.slice (some ⟨g', 0, none⟩) ((keep pre).length + 1) cap')) (.inr (hv1.not_row (by decide) hown').symm); have hc1 := hv1.cell; have hf1 := hv1.frozen)
      replace hgrow : (W.alloc (.cells #[.string x] 9)).grownBy w1 v.ownBlock := hgrow
      have hst : ∀ k, k ≠ w.heap.size → k < w.heap.size + 4 → (w1.setCell ⟨w.heap.size, 0, none⟩ (.slice (some ⟨g', 0, none⟩) ((keep pre).length + 1) cap')).heap[k]? = W.heap[k]? := fun k hk hk4 => by
        rw [Below.heap_setCell _ _ _ k hk, hgrow.block k (by simp; omega) (fun e => by have := own_base ho k e.symm; omega), Below.heap_alloc W _ k (by omega)]
      exact ⟨hk2.from _, ⟨hst _ (by omega) (by omega), hst _ (by omega) (by omega), hst _ (by omega) (by omega)⟩, ⟨_, hv2, by rw [Hk.out]; simpa using hr2⟩, hB.trans hb2, by have := hgrow.size; simp at this; omega⟩
  case done =>
    rintro D W hD ⟨⟨v, hb, ho⟩, hB, _⟩ hK
    have hc := hb.cell
    gi_wp2
    refine ⟨by simp, .inl ⟨_, _, rfl, run_takeDeferred hK, ?_⟩⟩
    exact ⟨_, results_tmp rfl _ _ _, v, rfl, ownsRow_putObj ho _ hK rfl, hB.trans (belowK_b (w := w) (Nat.le_refl _) W D _ _ (by omega) hK rfl rfl)⟩
end Seq
end Go.Proofs.YtmgaigbmeenjhaaDoor
