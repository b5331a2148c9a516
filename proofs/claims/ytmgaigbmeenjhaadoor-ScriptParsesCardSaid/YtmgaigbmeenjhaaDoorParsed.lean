/- The walks of script.parsed (function 6) and script.Parse (function 4): the lines of a text that say something, or the first one that is none; under the condition that the tables of unicode/utf8 and errors.errorType are laid. -/
import Derived.Test.YtmgaigbmeenjhaaDoorRead
import Derived.Test.YtmgaigbmeenjhaaDoorAs
import Derived.Deep.LoopGhost
namespace Go.Proofs.YtmgaigbmeenjhaaDoor
open Go.RowKit Go.Proofs.YtmgaigbmeenjhaaDoorW.PrintWords
namespace Parsed
open Go.Proofs.YtmgaigbmeenjhaaDoor.Read

set_option maxRecDepth 1000000 in
set_option maxHeartbeats 4000000 in
theorem parsed_big (s : ByteArray) (w : World) (hs : 1048576 < s.size) (hH : As.Held w) :
    Calls Tryd.prog 6 #[.string s] w fun e w' => e = .returned (.tuple #[.slice none 0 0, .int .i64 0, .int .i64 3]) ∧ Below w.heap.size w w' := by
  have HRB := Lib.hid (read_big s w hs)
  have hH1 : As.Held (w.alloc (.cells #[.int .i64 0] 47)) := As.held_below hH ((Below.refl _ _).alloc (Nat.le_refl _) _)
  have HAM := Lib.hid (As.as_miss 3 w.heap.size (w.alloc (.cells #[.int .i64 0] 47)) hH1)
  have hb0 : Below w.heap.size w (w.alloc (.cells #[.int .i64 0] 47)) := (Below.refl _ _).alloc (Nat.le_refl _) _
  have Hb0 := Lib.hid hb0
  clear hH hH1 hb0
  go_enter Tryd.func6, Tryd.ntmps6
  go_wp2_with (first | (go_at_call 11; refine HRB.out.mono ?_; rintro e w1 ⟨rfl, rfl⟩) | (go_at_call 12; refine HAM.out.mono ?_; rintro e w2 ⟨rfl, hb2⟩))
  go_ret3
  exact ⟨rfl, Hb0.out.trans (hb2.mono Hb0.out.size)⟩

def ParsedPost (s : ByteArray) (w : World) (e : Ending) (w' : World) : Prop :=
  Below w.heap.size w w' ∧
  match readL (Seq.sp 10 s) 0 [] with
  | .inl l => ∃ v, e = .returned (.tuple #[v, .int .i64 0, .int .i64 0]) ∧ Kd.R k39 39 w' w.heap.size (fun _ => True) v l
  | .inr i => e = .returned (.tuple #[.slice none 0 0, .int .i64 (i : Int), .int .i64 50])
set_option maxRecDepth 1000000 in
set_option maxHeartbeats 4000000 in
theorem parsed_walk (s : ByteArray) (w : World) (hs : s.size ≤ 1048576) (hSh : w.ShapedOpen Tryd.prog) (hT : Lib.Utf8Tabs 2 3 w) (hH : As.Held w) :
    Calls Tryd.prog 6 #[.string s] w (ParsedPost s w) := by
  have HRW := read_walk s w hs hSh hT
  clear hT hSh
  have HH := Lib.hid hH
  clear hH
  cases hr : readL (Seq.sp 10 s) 0 [] with
  | inl l =>
    have H : Calls Tryd.prog 11 #[.string s] w fun e w' => ∃ v, e = .returned (.tuple #[v, .nilIface]) ∧ Kd.R k39 39 w' w.heap.size (fun _ => True) v l ∧ Below w.heap.size w w' := HRW.mono fun e w' h => by
      unfold ReadPost at h
      rw [hr] at h
      obtain ⟨hb, v, he, hR⟩ := h
      exact ⟨v, he, hR, hb⟩
    have HP : Hid (∀ e w', (∃ v, e = .returned (.tuple #[v, .int .i64 0, .int .i64 0]) ∧ Kd.R k39 39 w' w.heap.size (fun _ => True) v l) → Below w.heap.size w w' → ParsedPost s w e w') := fun e w' h hb => by
      unfold ParsedPost
      rw [hr]
      exact ⟨hb, h⟩
    have HC := Lib.hid H
    clear H HRW hr
    go_enter Tryd.func6, Tryd.ntmps6
    go_wp2_with (go_at_call 11; refine HC.out.mono ?_; rintro e w1 ⟨v1, rfl, hR1, hb1⟩)
    go_ret3
    exact HP.out _ _ ⟨_, rfl, Kd.R_alloc hR1 _⟩ (hb1.alloc hb1.size _)
  | inr i =>
    have H : Calls Tryd.prog 11 #[.string s] w fun e w' => e = .returned (.tuple #[.slice none 0 0, .iface 47 (.agg #[.int .i64 (i : Int)])]) ∧ Below w.heap.size w w' := HRW.mono fun e w' h => by
      unfold ReadPost at h
      rw [hr] at h
      exact ⟨h.2, h.1⟩
    have HP : Hid (∀ e w', e = .returned (.tuple #[.slice none 0 0, .int .i64 (i : Int), .int .i64 50]) → Below w.heap.size w w' → ParsedPost s w e w') := fun e w' h hb => by
      unfold ParsedPost
      rw [hr]
      exact ⟨hb, h⟩
    have HC := Lib.hid H
    clear H HRW hr
    go_enter Tryd.func6, Tryd.ntmps6
    go_wp2_with (go_at_call 11; refine HC.out.mono ?_; rintro e w1 ⟨rfl, hb1⟩)
    have HAH := Lib.hid (As.as_hit (i : Int) w1.heap.size (w1.alloc (.cells #[.int .i64 0] 47)) (As.held_below (As.held_below HH.out hb1) ((Below.refl _ _).alloc (Nat.le_refl _) _)) (MapKept.heap_alloc w1 _).1)
    refine HAH.out.mono ?_
    rintro e w2 ⟨rfl, hc2, hB2⟩
    have hb2 := (hb1.alloc hb1.size (.cells #[.int .i64 0] 47)).trans (hB2 w.heap.size hb1.size (by simp; have := hb1.size; omega))
    have HB2 := Lib.hid hb2
    clear hB2 hb2
    go_wp2
    go_region
    all_goals go_wp2
    all_goals go_ret3
    all_goals exact HP.out _ _ rfl HB2.out.drew
end Parsed
end Go.Proofs.YtmgaigbmeenjhaaDoor
