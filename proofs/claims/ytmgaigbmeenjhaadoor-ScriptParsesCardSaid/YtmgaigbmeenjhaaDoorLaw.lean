/- The walk of the law ScriptParses (function 3): true at every text. -/
import Derived.Test.YtmgaigbmeenjhaaDoorPlainParse
namespace Go.Proofs.YtmgaigbmeenjhaaDoor
open Go.RowKit Go.Proofs.YtmgaigbmeenjhaaDoorW.PrintWords
namespace Law
open Go.Proofs.YtmgaigbmeenjhaaDoor.Read Go.Proofs.YtmgaigbmeenjhaaDoor.Parse Go.Proofs.YtmgaigbmeenjhaaDoor.Plain Go.Proofs.YtmgaigbmeenjhaaDoor.Pparse

theorem line_at {w : World} {A : Option Addr} {l : List P39} (h : Kd.C k33 w A l.length (l.map line)) {i : Nat} (hi : i < l.length) :
    ∃ ad B b, A = some ad ∧ w.cell? (ad.add (i * 2)) = some (.string (l[i]'hi).f0) ∧ w.cell? ⟨(ad.add (i * 2)).block, (ad.add (i * 2)).off + 1, none⟩ = some (.slice B (l[i]'hi).f1.length b) ∧ (l[i]'hi).f1.length ≤ b ∧ Kd.string.C w B (l[i]'hi).f1.length (l[i]'hi).f1 := by
  obtain ⟨ad, c, e, _, hK, hc0⟩ := Kd.C_get h ⟨ByteArray.empty, []⟩ (i : Int) (by omega) (by omega)
  have hc : ∀ j u, c[j]? = some u → w.cell? (ad.add (i * 2 + j)) = some u := hc0
  have e2 : (l.map line).getD (i : Int).toNat ⟨ByteArray.empty, []⟩ = line (l[i]'hi) := by simp [hi]
  rw [e2] at hK
  obtain ⟨B, b, rfl, h1, h2⟩ := k33_open hK
  exact ⟨ad, B, b, e, hc 0 _ rfl, by rw [← add_field _ _ 1 (by omega)]; exact hc 1 _ rfl, h1, h2⟩
theorem want_at {w : World} {A : Option Addr} {l : List P39} (h : Kd.C k31 w A l.length (l.map want)) {i : Nat} (hi : i < l.length) :
    ∃ ad B b, A = some ad ∧ w.cell? ⟨(ad.add (i * 2)).block, (ad.add (i * 2)).off + 1, none⟩ = some (.slice B ((l[i]'hi).f1.length + 1) b) ∧ (l[i]'hi).f1.length + 1 ≤ b ∧ Kd.string.C w B ((l[i]'hi).f1.length + 1) ((l[i]'hi).f0 :: (l[i]'hi).f1) := by
  obtain ⟨ad, B, b, e, _, h1, h2, h3⟩ := at_T31 h (i : Int) (by omega) (by omega)
  have e2 : rd_T31 (l.map want) (i : Int) = want (l[i]'hi) := by simp [rd_T31, hi]
  rw [e2] at h1 h2 h3
  exact ⟨ad, B, b, e, h1, h2, h3⟩

set_option maxRecDepth 1000000 in
set_option maxHeartbeats 4000000 in
theorem law_core (s : ByteArray) (w : World) (l : List P39) (a e : Int) (hl : l.length ≤ 1048577) (hlw : ∀ p ∈ l, p.f1.length ≤ 1048577)
    (H4 : Calls Tryd.prog 4 #[.string s] w fun o w' => ∃ v, o = .returned (.tuple #[v, .int .i64 a, .int .i64 e]) ∧ Kd.R k33 33 w' w.heap.size (fun _ => True) v (l.map line) ∧ Below w.heap.size w w')
    (H5 : ∀ w1 : World, Calls Tryd.prog 5 #[.string s] w1 fun o w' => ∃ v, o = .returned (.tuple #[v, .int .i64 a, .int .i64 e]) ∧ Kd.S k31 31 w' w1.heap.size (fun _ => True) v (l.map want) ∧ Below w1.heap.size w1 w') :
    Calls Tryd.prog 3 #[.string s] w fun o w' => o = .returned (.bool true) ∧ Below w.heap.size w w' := by
  have HC4 := Lib.hid H4
  have HC5 := Lib.hid H5
  clear H4 H5
  go_enter Tryd.func3, Tryd.ntmps3
  go_wp2_with fail
  refine HC4.out.mono ?_
  rintro o w1 ⟨v1, rfl, hR1, hb1⟩
  obtain ⟨A1, c1, rfl⟩ := Kd.R_slice hR1
  have hC1 := (Kd.R_reads' hR1).2.2
  clear hR1 HC4
  go_wp2_with fail
  refine (HC5.out w1).mono ?_
  rintro o w2 ⟨v2, rfl, hS2, hb2⟩
  obtain ⟨A2, c2, rfl⟩ := Kd.S_slice hS2
  have hC2 := (Kd.S_reads' hS2).2.2
  clear hS2 HC5
  have HC1 := Lib.hid (Kd.C_below hC1 hb2)
  have HC2 := Lib.hid hC2
  have HB := Lib.hid (hb1.trans (hb2.mono hb1.size))
  clear hC1 hC2 hb1 hb2
  rw [List.length_map] at HC1 HC2
  go_wp2
  go_loopw [9] (fun k wr => ∃ (i : Nat), k = .int .i64 i ∧ i ≤ l.length ∧ Below w2.heap.size w2 wr) (fun k _ => l.length - (intOf k).toNat)
  case atStart => exact ⟨0, rfl, Nat.zero_le _, Below.refl _ _⟩
  case round =>
    obtain ⟨i, rfl, hi, hbw⟩ := hrel
    by_cases hlt : i < l.length
    · obtain ⟨ad1, B1, b1, rfl, hx0, hx1, hle1, hCa⟩ := line_at HC1.out hlt
      obtain ⟨ad2, B2, b2, rfl, hy1, hle2, hCb⟩ := want_at HC2.out hlt
      obtain ⟨bd2, rfl, hy2⟩ := Kd.at_string hCb 0 (by omega) (by omega)
      have e0 : rdOf ByteArray.empty ((l[i]'hlt).f0 :: (l[i]'hlt).f1) 0 = (l[i]'hlt).f0 := rfl
      rw [e0] at hy2
      have hpl := hlw _ (List.getElem_mem hlt)
      generalize l[i]'hlt = p at *
      have hw0 := (hbw.cell (Cuts.cell_lt hx0)).trans hx0
      have hw1 := (hbw.cell (Cuts.cell_lt hx1)).trans hx1
      have hv1 := (hbw.cell (Cuts.cell_lt hy1)).trans hy1
      have hv2 : wr.cell? bd2 = some (.string p.f0) := (hbw.cell (Cuts.cell_lt hy2)).trans hy2
      go_wp2
      go_region
      go_wp2
      clear hw0 hw1 hv1 hv2
      have HX1 := Lib.hid hx1
      have HCa := Lib.hid hCa
      have HCb := Lib.hid hCb
      clear hx0 hy1 hy2 hx1 hCa hCb
      go_loopw [11] (fun k wk => ∃ (j : Nat), k = .int .i64 ((j : Int) + 1) ∧ j ≤ p.f1.length ∧ Below w2.heap.size w2 wk) (fun k _ => p.f1.length + 1 - (intOf k).toNat)
      case atStart => exact ⟨0, rfl, Nat.zero_le _, below_drew hbw⟩
      case round =>
        obtain ⟨j, rfl, hj, hbk⟩ := hrel
        by_cases hjl : j < p.f1.length
        · obtain ⟨bd1, rfl, hz1⟩ := Kd.at_string HCa.out (j : Int) (by omega) (by omega)
          obtain ⟨_, e, hz2⟩ := Kd.at_string HCb.out ((j : Int) + 1) (by omega) (by omega)
          cases e
          have er : rdOf ByteArray.empty (p.f0 :: p.f1) ((j : Int) + 1) = rdOf ByteArray.empty p.f1 (j : Int) := by
            simp [rdOf, show ((j : Int) + 1).toNat = j + 1 by omega]
          rw [er] at hz2
          rw [show ((j : Int) + 1).toNat = j + 1 by omega] at hz2
          rw [Int.toNat_natCast] at hz1
          generalize rdOf ByteArray.empty p.f1 (j : Int) = y at *
          have hz1' := (hbk.cell (Cuts.cell_lt hz1)).trans hz1
          have ea : bd2.add (j + 1) = ⟨bd2.block, bd2.off + (j + 1), none⟩ := by simp [Addr.add]
          rw [ea] at hz2
          have hz2' := (hbk.cell (Cuts.cell_lt hz2)).trans hz2
          have hx1' := (hbk.cell (Cuts.cell_lt HX1.out)).trans HX1.out
          clear hz1 hz2
          go_wp2
          go_region
          go_wp2
          refine ⟨⟨j + 1, by go_num, hjl, below_drew hbk⟩, ?_⟩
          simp only [intOf]
          omega
        · go_wp2
          go_roundw
          case rel => exact ⟨i + 1, by go_num, hlt, hbk⟩
          case measure => simp [intOf]; omega
    · go_wp2
      go_ret
      exact ⟨rfl, HB.out.trans (hbw.mono HB.out.size)⟩

/-- The words of a line that the reading keeps are few. -/
theorem readL_few : ∀ (L : List ByteArray), (∀ x ∈ L, x.size ≤ 1048576) → ∀ (i : Nat) (acc : List P39) {l : List P39}, (∀ p ∈ acc, p.f1.length ≤ 1048577) → readL L i acc = .inl l → ∀ p ∈ l, p.f1.length ≤ 1048577
  | [], _, i, acc, l, ha, h => by cases h; exact ha
  | x :: r, hx, i, acc, l, ha, h => by
    have hx1 := hx x (by simp)
    have hr : ∀ y ∈ r, y.size ≤ 1048576 := fun y hy => hx y (by simp [hy])
    unfold readL at h
    split at h
    · cases h
    · exact readL_few r hr _ _ ha h
    · rename_i p hp
      refine readL_few r hr _ _ (fun q hq => ?_) h
      rcases List.mem_append.1 hq with hq | hq
      · exact ha q hq
      · rw [List.mem_singleton.1 hq]
        have hw := wordsOf_len x
        unfold lineOf at hp
        dsimp only at hp
        split at hp
        · cases hp
        · split at hp
          · cases hp
          · split at hp
            · cases hp
              simp only [List.length_drop]
              omega
            · cases hp

theorem law_big (s : ByteArray) (w : World) (hs : 1048576 < s.size) (hH : As.Held w) :
    Calls Tryd.prog 3 #[.string s] w fun o w' => o = .returned (.bool true) ∧ Below w.heap.size w w' :=
  law_core s w [] 0 3 (by simp) (by simp)
    ((Parse.parse_big s w hs hH).mono fun _ _ ⟨he, hb⟩ => ⟨_, he, Kd.R_nil _ _ _ _ _, hb⟩)
    (fun w1 => caravellaw28_parse.calls 0 s [] 0 3 w1 (Plain.parse_big s hs))

theorem law_walk (s : ByteArray) (w : World) (hSh : w.ShapedOpen Tryd.prog) (hT : Lib.Utf8Tabs 2 3 w) (hH : As.Held w) :
    Calls Tryd.prog 3 #[.string s] w fun o w' => o = .returned (.bool true) ∧ Below w.heap.size w w' := by
  rcases Nat.lt_or_ge 1048576 s.size with hs | hs
  · exact law_big s w hs hH
  · have H4 := parse_walk s w hs hSh hT hH
    obtain ⟨k, hk⟩ := (parse_f s hs).rounds
    have hsp : ∀ x ∈ Seq.sp 10 s, x.size ≤ 1048576 := fun x hx => Nat.le_trans (sp_pieces 10 s x hx) hs
    unfold ParsePost at H4
    cases hr : readL (Seq.sp 10 s) 0 [] with
    | inl l =>
      rw [hr] at H4 hk
      have hll := readL_len _ _ _ hr
      have hln := Seq.sp_len 10 s
      simp only [List.length_nil] at hll
      exact law_core s w l 0 0 (by omega) (readL_few _ hsp _ _ (by simp) hr)
        (H4.mono fun _ _ ⟨hb, v, he, hR⟩ => ⟨v, he, hR, hb⟩)
        (fun w1 => caravellaw28_parse.calls k s _ _ _ w1 hk)
    | inr i =>
      rw [hr] at H4 hk
      exact law_core s w [] (i : Int) 50 (by simp) (by simp)
        (H4.mono fun _ _ ⟨hb, he⟩ => ⟨_, he, Kd.R_nil _ _ _ _ _, hb⟩)
        (fun w1 => caravellaw28_parse.calls k s _ _ _ w1 hk)
end Law
end Go.Proofs.YtmgaigbmeenjhaaDoor
