/- The walk of script.Parse (function 4), under the condition that the tables of unicode/utf8 and errors.errorType are laid. -/
import Derived.Test.YtmgaigbmeenjhaaDoorParsed
import Derived.Deep.LoopGhost
import Derived.Deep.MidRow
import Derived.Deep.DeepMust
namespace Go.Proofs.YtmgaigbmeenjhaaDoor
open Go.RowKit Go.Proofs.YtmgaigbmeenjhaaDoorW.PrintWords
namespace Parse
open Go.Proofs.YtmgaigbmeenjhaaDoor.Read Go.Proofs.YtmgaigbmeenjhaaDoor.Parsed

structure S33 where
  f0 : ByteArray
  f1 : List ByteArray
def k33 : Kd S33 := Kd.iso (Kd.pair Kd.string kSh) (fun x : S33 => (x.f0, x.f1))
theorem k33_open {w : World} {x : S33} {cs : List Value} (h : k33.K w x cs) : ∃ A c, cs = [.string x.f0, .slice A x.f1.length c] ∧ x.f1.length ≤ c ∧ Kd.string.C w A x.f1.length x.f1 := by
  obtain ⟨_, _, rfl, rfl, A, c, rfl, h1, h2⟩ := h
  exact ⟨A, c, rfl, h1, h2⟩
theorem info33 : (Tryd.prog.info? 33).map (fun i => (i.zero, i.size, i.bytes)) = some (some (.agg #[.string ⟨#[]⟩, .slice none 0 0]), 2, 40) := by kernel_rfl
theorem k39_M {w : World} {base : Nat} {ok : Nat → Prop} {x : P39} {cs : List Value} (h : k39.M w base ok x cs) : ∃ A c, cs = [.string x.f0, .slice A x.f1.length c, .int .i64 x.f2] ∧ x.f1.length ≤ c ∧ Kd.F Kd.string w (fun k => ok k ∧ in9 w base k) A x.f1.length x.f1 := by
  obtain ⟨_, _, rfl, ⟨_, _, rfl, rfl, A, c, rfl, h1, h2⟩, rfl⟩ := h
  exact ⟨A, c, rfl, h1, h2⟩
theorem k33_M {w : World} {base : Nat} {ok : Nat → Prop} {x : S33} {A : Option Addr} {c : Nat} (h1 : x.f1.length ≤ c) (h2 : Kd.F Kd.string w (fun k => ok k ∧ in9 w base k) A x.f1.length x.f1) : k33.M w base ok x [.string x.f0, .slice A x.f1.length c] :=
  ⟨[.string x.f0], [.slice A x.f1.length c], rfl, rfl, A, c, rfl, h1, h2⟩
theorem in9_below {w w1 : World} {base k : Nat} (h : in9 w base k) (hb : Below w.heap.size w w1) : in9 w1 base k := by
  obtain ⟨h1, h2, cells, h3⟩ := h
  exact ⟨h1, Nat.lt_of_lt_of_le h2 hb.size, cells, (hb.block k h2).trans h3⟩
def line (p : P39) : S33 := ⟨p.f0, p.f1⟩
def z39 : P39 := ⟨ByteArray.empty, [], 0⟩

set_option maxRecDepth 1000000 in
set_option maxHeartbeats 4000000 in
theorem parse_big (s : ByteArray) (w : World) (hs : 1048576 < s.size) (hH : As.Held w) :
    Calls Tryd.prog 4 #[.string s] w fun e w' => e = .returned (.tuple #[.slice none 0 0, .int .i64 0, .int .i64 3]) ∧ Below w.heap.size w w' := by
  have HPB := Lib.hid (parsed_big s w hs hH)
  clear hH
  go_enter Tryd.func4, Tryd.ntmps4
  go_wp2_with (go_at_call 6; refine HPB.out.mono ?_; rintro e w1 ⟨rfl, hb1⟩)
  refine wp_loop_rounds 1 ?_
  rw [rounds_succ]
  go_wp2
  go_ret3
  exact ⟨rfl, hb1⟩

theorem readL_len : ∀ (L : List ByteArray) (i : Nat) (acc : List P39) {l : List P39}, readL L i acc = .inl l → l.length ≤ acc.length + L.length
  | [], i, acc, l, h => by cases h; simp
  | x :: r, i, acc, l, h => by
    unfold readL at h
    split at h
    · cases h
    · have := readL_len r _ _ h; simp only [List.length_cons]; omega
    · have := readL_len r _ _ h; simp only [List.length_cons, List.length_append, List.length_nil] at this ⊢; omega

def ParsePost (s : ByteArray) (w : World) (e : Ending) (w' : World) : Prop :=
  Below w.heap.size w w' ∧
  match readL (Seq.sp 10 s) 0 [] with
  | .inl l => ∃ v, e = .returned (.tuple #[v, .int .i64 0, .int .i64 0]) ∧ Kd.R k33 33 w' w.heap.size (fun _ => True) v (l.map line)
  | .inr i => e = .returned (.tuple #[.slice none 0 0, .int .i64 (i : Int), .int .i64 50])
set_option maxRecDepth 1000000 in
set_option maxHeartbeats 4000000 in
theorem parse_walk (s : ByteArray) (w : World) (hs : s.size ≤ 1048576) (hSh : w.ShapedOpen Tryd.prog) (hT : Lib.Utf8Tabs 2 3 w) (hH : As.Held w) :
    Calls Tryd.prog 4 #[.string s] w (ParsePost s w) := by
  have HRW := parsed_walk s w hs hSh hT hH
  clear hT hSh hH
  cases hr : readL (Seq.sp 10 s) 0 [] with
  | inr i =>
    have H : Calls Tryd.prog 6 #[.string s] w fun e w' => e = .returned (.tuple #[.slice none 0 0, .int .i64 (i : Int), .int .i64 50]) ∧ Below w.heap.size w w' := HRW.mono fun e w' h => by
      unfold ParsedPost at h
      rw [hr] at h
      exact ⟨h.2, h.1⟩
    have HP : Hid (∀ e w', e = .returned (.tuple #[.slice none 0 0, .int .i64 (i : Int), .int .i64 50]) → Below w.heap.size w w' → ParsePost s w e w') := fun e w' h hb => by
      unfold ParsePost
      rw [hr]
      exact ⟨hb, h⟩
    have HC := Lib.hid H
    clear H HRW hr
    go_enter Tryd.func4, Tryd.ntmps4
    go_wp2_with (go_at_call 6; refine HC.out.mono ?_; rintro e w1 ⟨rfl, hb1⟩)
    refine wp_loop_rounds 1 ?_
    rw [rounds_succ]
    go_wp2
    go_ret3
    exact HP.out _ _ rfl hb1
  | inl l =>
    have H : Calls Tryd.prog 6 #[.string s] w fun e w' => ∃ v, e = .returned (.tuple #[v, .int .i64 0, .int .i64 0]) ∧ Kd.R k39 39 w' w.heap.size (fun _ => True) v l ∧ Below w.heap.size w w' := HRW.mono fun e w' h => by
      unfold ParsedPost at h
      rw [hr] at h
      obtain ⟨hb, v, he, hR⟩ := h
      exact ⟨v, he, hR, hb⟩
    have HP : Hid (∀ e w', (∃ v, e = .returned (.tuple #[v, .int .i64 0, .int .i64 0]) ∧ Kd.R k33 33 w' w.heap.size (fun _ => True) v (l.map line)) → Below w.heap.size w w' → ParsePost s w e w') := fun e w' h hb => by
      unfold ParsePost
      rw [hr]
      exact ⟨hb, h⟩
    have hll : l.length ≤ 1048577 := by
      have h1 := readL_len _ _ _ hr
      have h2 := Seq.sp_len 10 s
      simp at h1
      omega
    have HC := Lib.hid H
    clear H HRW hr
    go_enter Tryd.func4, Tryd.ntmps4
    go_wp2_with fail
    refine HC.out.mono ?_
    rintro e w1 ⟨v1, rfl, hR1, hb1⟩
    obtain ⟨A1, c1, rfl⟩ := Kd.R_slice hR1
    have HR1 := Lib.hid hR1
    clear hR1
    go_wp2
    go_loopw [2, 17] (fun v k wr => ∃ (i : Nat), k = .int .i64 i ∧ i ≤ l.length ∧ Hid (Kd.R k33 33 wr w.heap.size (fun _ => True) v ((l.take i).map line)) ∧ Hid (∀ b, v.ownBlock = some b → w1.heap.size ≤ b) ∧ Below w1.heap.size w1 wr) (fun _ k _ => l.length - (intOf k).toNat)
    case atStart => exact ⟨0, rfl, Nat.zero_le _, by simp only [List.take_zero, List.map_nil]; exact Kd.R_nil _ _ _ _ _, fun b hb => by simp [Value.ownBlock] at hb, Below.refl _ _⟩
    case round =>
      obtain ⟨i, rfl, hi, hv, hvb, hbw⟩ := hrel
      by_cases hlt : i < l.length
      · obtain ⟨g, c2, e2, hg1, hg2, _⟩ := Kd.R_form HR1.out (by omega)
        obtain ⟨rfl, rfl⟩ : A1 = some ⟨g, 0, none⟩ ∧ c1 = c2 := by injection e2 with e1 _ e2; exact ⟨e1, e2⟩
        obtain ⟨cs, hcs, hM, hcell, _⟩ := Kd.R_elem HR1.out z39 (i : Int) (by omega) (by omega)
        obtain ⟨A, c, rfl, hle, hF⟩ := k39_M hM
        rw [Int.toNat_natCast] at hcell hF hle
        have h0 : wr.cell? ⟨g, i * 3, none⟩ = some (.string (l.getD i z39).f0) := (hbw.cell (p := ⟨g, i * 3, none⟩) hg2).trans (hcell 0 _ rfl)
        have h1 := (hbw.cell (p := ⟨g, i * 3 + 1, none⟩) hg2).trans (hcell 1 _ rfl)
        have h2 := (hbw.cell (p := ⟨g, i * 3 + 2, none⟩) hg2).trans (hcell 2 _ rfl)
        have Hx : Hid (l.take (i + 1) = l.take i ++ [l.getD i z39]) := by
          rw [Hid, List.take_succ_eq_append_getElem hlt]
          congr 2
          simp [hlt]
        have HF := Lib.hid hF
        clear hM hcell hcs hF
        generalize l.getD i z39 = x at *
        have hbW : Below w1.heap.size w1 (wr.alloc (.cells #[.string x.f0, .slice A x.f1.length c, .int .i64 x.f2] 39)) := hbw.alloc hbw.size _
        have HbW := Lib.hid hbW
        have HBw := Lib.hid (hb1.trans (hbW.mono hb1.size))
        have HRW := Lib.hid (Kd.R_alloc hv.out (.cells #[.string x.f0, .slice A x.f1.length c, .int .i64 x.f2] 39))
        have HM : Hid (k33.M (wr.alloc (.cells #[.string x.f0, .slice A x.f1.length c, .int .i64 x.f2] 39)) w.heap.size (fun k => k < w1.heap.size) (line x) [.string x.f0, .slice A x.f1.length c]) :=
          k33_M hle (Kd.F_mono (Kd.F_below HF.out hbW) (fun k hk => ⟨hk.2.2.1, in9_below hk.2 hbW⟩))
        have htl : ((l.take i).map line).length = i := by simp; omega
        have hszW := HBw.out.size
        clear hbW
        go_wp2_with (at_builtin; go_must (refine Kd.R_append k33 w.heap.size rfl (.tmp 21) (.tmp 24) 22 33 _ 40 rfl Tryd.underlying22 info33 (by kernel_rfl) (by decide) (by decide) u2 ((l.take i).map line) (line x) _ (fun _ => True) (fun k => k < w1.heap.size) rfl (by rw [World.size_alloc]; rfl) HM.out (fun k hk => ⟨trivial, fun e => by have := hvb.out k e.symm; omega⟩) (fun _ _ => trivial) HRW.out HBw.out hszW (by omega) ?_); intro v1 w7 hR7 hB7 hG7 hat)
        go_roundw
        case rel =>
          refine ⟨i + 1, by go_num, hlt, by rw [Hid, Hx.out, List.map_append]; exact hR7, fun b hb => ?_, HbW.out.grown hG7 HbW.out.size (fun k e => hvb.out k e)⟩
          rcases hat with hat | ⟨b', hb', hle'⟩
          · exact hvb.out b (hat ▸ hb)
          · rw [hb'] at hb; cases hb; exact Nat.le_trans HbW.out.size hle'
        case measure => simp [intOf]; omega
      · go_wp2
        go_ret3
        refine HP.out _ _ ⟨_, rfl, ?_⟩ (hb1.trans (hbw.mono hb1.size))
        have := hv.out
        rw [List.take_of_length_le (by omega)] at this
        exact this
end Parse
end Go.Proofs.YtmgaigbmeenjhaaDoor
