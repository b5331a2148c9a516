/- Plain law, without a program: the statement's own parse answers as the program's reading of the lines does (readL). -/
import Derived.Test.YtmgaigbmeenjhaaDoorPlain
import Derived.Test.YtmgaigbmeenjhaaDoorParse
namespace Go.Proofs.YtmgaigbmeenjhaaDoor
open Go.RowKit Go.Proofs.YtmgaigbmeenjhaaDoorW.PrintWords Go.Proofs.YtmgaigbmeenjhaaDoor.Pparse
namespace Plain
open Go.Proofs.YtmgaigbmeenjhaaDoor.Read

def want (p : P39) : S31 := ⟨p.f2, p.f0 :: p.f1⟩
abbrev Res := List S31 × Int × Int
def resOf : Sum (List P39) Nat → Res
  | .inl l => (l.map want, 0, 0)
  | .inr i => ([], (i : Int), 50)

theorem up {i : Nat} (h : i ≤ 2097152) : wrap64 ((i : Int) + 1) = ((i + 1 : Nat) : Int) := by unfold wrap64; omega
theorem down {i : Nat} (h1 : 1 ≤ i) (h : i ≤ 2097152) : wrap64 ((i : Int) - 1) = ((i - 1 : Nat) : Int) := by unfold wrap64; omega
theorem rd_nat {xs : List ByteArray} {i : Nat} (h : i < xs.length) : rdOf ByteArray.empty xs (i : Int) = xs[i]'h := by simp [rdOf, h]
theorem rd_zero (xs : List ByteArray) : rdOf ByteArray.empty xs 0 = xs.getD 0 ByteArray.empty := rfl

/-- What stands behind the loop over the pieces. -/
def behind (k : Nat) (out : List S31) (L : List ByteArray) (i : Int) (ws : List ByteArray) : Option Res :=
  if (ws.length : Int) = 0 then (caravellaw28_parse.j2 k out L i ws true) else (if 0 < (ws.length : Int) then (if 0 < ((rdOf ByteArray.empty ws 0).size : Int) then (caravellaw28_parse.j2 k out L i ws ((bt (rdOf ByteArray.empty ws 0) 0) == 35)) else (none)) else (none))
theorem l1_ev (out : List S31) (L : List ByteArray) (i : Int) (p : List ByteArray) (r : Res) (hp : p.length ≤ 1048577) (hr : Ev (fun k => behind k out L i (Seq.keep p)) r) : ∀ (d j : Nat), j + d = p.length →
    Ev (fun k => caravellaw28_parse.l1 k out L i (Seq.keep (p.take j)) p (j : Int)) r
  | 0, j, hd => by
    rw [List.take_of_length_le (by omega)]
    refine Ev.step (fun k => ?_) hr
    simp only [caravellaw28_parse.l1]
    rw [if_neg (by omega)]
    rfl
  | d + 1, j, hd => by
    have hlt : j < p.length := by omega
    have ih := l1_ev out L i p r hp hr d (j + 1) (by omega)
    have e : p.take (j + 1) = p.take j ++ [p[j]'hlt] := List.take_succ_eq_append_getElem hlt
    have hl := Seq.keep_le (p.take j)
    have hl2 : (p.take j).length ≤ j := List.length_take_le _ _
    refine Ev.step (fun k => ?_) ih
    simp only [caravellaw28_parse.l1]
    rw [if_pos (by omega), if_pos (by omega), rd_nat hlt, up (by omega)]
    by_cases hx : (p[j]'hlt).toList = []
    · rw [if_pos hx, e, Seq.keep_miss _ (by rw [hx]; rfl)]
    · rw [if_neg hx, if_pos (by omega), e, Seq.keep_hit _ (by rw [List.isEmpty_eq_false_iff]; exact hx)]

theorem hash_bt {x : ByteArray} (h : 0 < x.size) : hashB x = (bt x 0 == 35) := by
  have hb := bt_nat x 0 h
  rw [Int.natCast_zero] at hb
  rw [hb]
  have e : x.data.toList = x[0]'h :: x.data.toList.drop 1 := List.drop_eq_getElem_cons (l := x.data.toList) (i := 0) (by simpa using h) |>.symm ▸ (List.drop_zero).symm
  unfold hashB Lib.hasPrefix
  rw [e]
  simp only [List.isPrefixOf, Bool.and_true]
  rw [Bool.eq_iff_iff, beq_iff_eq, beq_iff_eq]
  constructor
  · intro e2; rw [← e2]; rfl
  · intro e2; exact UInt8.toNat_inj.1 (by have : (35 : UInt8).toNat = 35 := rfl; omega)
theorem keep_pos {p : List ByteArray} {x : ByteArray} (h : x ∈ Seq.keep p) : 0 < x.size := by
  have h2 := (List.mem_filter.1 h).2
  rw [ByteArray.toList_eq] at h2
  rcases Nat.eq_zero_or_pos x.size with h0 | h0
  · have : x.data.toList = [] := by apply List.length_eq_zero_iff.1; simpa using h0
    rw [this] at h2; simp at h2
  · exact h0

/-- ok is false: the line is none. -/
theorem l2_false (out : List S31) (L : List ByteArray) (i : Int) (ws : List ByteArray) (sh : ByteArray) (j : Int) : Ev (fun k => caravellaw28_parse.l2 k out L i ws sh false j) (([], i, 50) : Res) := by
  refine Ev.step (f := fun k => caravellaw28_parse.j5 k out L i ws sh false j false) (fun k => ?_) ?_
  · simp [caravellaw28_parse.l2]
  · refine Ev.step (f := fun _ => some (([], i, 50) : Res)) (fun k => ?_) (Ev.now _)
    simp [caravellaw28_parse.j5]

/-- The loop over the words behind the first one, from the j-th on. -/
theorem l2_ev (out : List S31) (L : List ByteArray) (i : Int) (ws : List ByteArray) (sh : ByteArray) (r : Res) (hw : ws.length ≤ 1048577) (hs : sh.size + 1 = ws.length) (hx : ∀ x ∈ ws, x.size ≤ 1048576) (hb : ∀ b ∈ sh.data.toList, b = 110 ∨ b = 116) (hout : out.length ≤ 1048577)
    (hyes : (List.zipWith Shapes.chk sh.data.toList (ws.drop 1)).all id = true → Ev (fun k => caravellaw28_parse.l0 k (out ++ [(⟨i, ws⟩ : S31)]) L (wrap64 (i + 1))) r)
    (hno2 : (List.zipWith Shapes.chk sh.data.toList (ws.drop 1)).all id = false → r = (([], i, 50) : Res)) : ∀ (d j : Nat), j + d = ws.length → 1 ≤ j → ((List.zipWith Shapes.chk sh.data.toList (ws.drop 1)).take (j - 1)).all id = true →
    Ev (fun k => caravellaw28_parse.l2 k out L i ws sh true (j : Int)) r
  | 0, j, hd, h1, ha => by
    rw [List.take_of_length_le (by rw [List.length_zipWith]; refine Nat.le_trans (Nat.min_le_right _ _) ?_; rw [List.length_drop]; omega)] at ha
    refine Ev.step (f := fun k => caravellaw28_parse.j5 k out L i ws sh true j false) (fun k => ?_) ?_
    · simp only [caravellaw28_parse.l2]
      rw [if_pos (by trivial), decide_eq_false (by omega)]
    · refine Ev.step (fun k => ?_) (hyes ha)
      simp only [caravellaw28_parse.j5]
      rw [if_neg (by simp), if_pos (by trivial), if_pos (by omega)]
  | d + 1, j, hd, h1, ha => by
    have hlt : j < ws.length := by omega
    have hj : j - 1 < sh.size := by omega
    have hbt := bt_nat sh (j - 1) hj
    have hin := hb (sh[j - 1]'hj) (Array.getElem_mem_toList _)
    have hsz := hx (ws[j]'hlt) (List.getElem_mem hlt)
    have hl : j - 1 < (List.zipWith Shapes.chk sh.data.toList (ws.drop 1)).length := by
      rw [List.length_zipWith, Nat.lt_min]
      exact ⟨by simpa using hj, by simp; omega⟩
    have hg : (List.zipWith Shapes.chk sh.data.toList (ws.drop 1))[j - 1]'hl = Shapes.chk (sh[j - 1]'hj) (ws[j]'hlt) := by
      rw [List.getElem_zipWith]
      congr 1
      rw [List.getElem_drop]
      congr 1
      omega
    have hch : Shapes.chk (sh[j - 1]'hj) (ws[j]'hlt) = false → r = (([], i, 50) : Res) := fun hc => by
      refine hno2 ?_
      rw [List.all_eq_false]
      refine ⟨Shapes.chk (sh[j - 1]'hj) (ws[j]'hlt), ?_, by rw [hc]; simp⟩
      rw [← hg]
      exact List.getElem_mem hl
    have ih : Shapes.chk (sh[j - 1]'hj) (ws[j]'hlt) = true → Ev (fun k => caravellaw28_parse.l2 k out L i ws sh true ((j + 1 : Nat) : Int)) r := fun hc => by
      refine l2_ev out L i ws sh r hw hs hx hb hout hyes hno2 d (j + 1) (by omega) (by omega) ?_
      rw [show j + 1 - 1 = (j - 1) + 1 by omega, List.take_succ_eq_append_getElem hl, List.all_append, ha, hg, hc]
      rfl
    refine Ev.step (f := fun k => caravellaw28_parse.j5 k out L i ws sh true j true) (fun k => ?_) ?_
    · simp only [caravellaw28_parse.l2]
      rw [if_pos (by trivial), decide_eq_true (by omega)]
    · rcases hin with hin | hin
      · refine Ev.step (f := fun k => (caravellaw28_digits.f k (ws[j]'hlt)).bind fun t109 => (if t109 = true then (caravellaw28_parse.l2 k out L i ws sh true ((j + 1 : Nat) : Int)) else (caravellaw28_parse.l2 k out L i ws sh false ((j + 1 : Nat) : Int)))) (fun k => ?_) ?_
        · simp only [caravellaw28_parse.j5]
          rw [if_pos (by trivial), down h1 (by omega), if_pos (by omega), if_pos (by omega), hbt, hin, if_pos (by rfl), if_pos (by omega), if_pos (by omega), rd_nat hlt, up (by omega)]
          congr 1
        · refine Ev.bind (digits_f _ (by omega)) ?_
          cases hd2 : Cuts.isNum (ws[j]'hlt) with
          | true => simpa using ih (by rw [hin]; simp [Shapes.chk, hd2])
          | false =>
            have hr := hch (by rw [hin]; simp [Shapes.chk, hd2])
            rw [hr]
            simpa using l2_false out L i ws sh ((j + 1 : Nat) : Int)
      · refine Ev.step (f := fun k => (caravellaw28_text.f k (ws[j]'hlt)).bind fun t111 => (caravellaw28_parse.l2 k out L i ws sh t111 ((j + 1 : Nat) : Int))) (fun k => ?_) ?_
        · simp only [caravellaw28_parse.j5]
          rw [if_pos (by trivial), down h1 (by omega), if_pos (by omega), if_pos (by omega), hbt, hin, if_neg (by decide), if_pos (by rfl), if_pos (by omega), if_pos (by omega), rd_nat hlt, up (by omega)]
        · refine Ev.bind (text_f _ (by omega)) ?_
          cases hd2 : Cuts.isTxt (ws[j]'hlt) with
          | true => exact ih (by rw [hin]; simp [Shapes.chk, hd2])
          | false =>
            have hr := hch (by rw [hin]; simp [Shapes.chk, hd2])
            rw [hr]
            exact l2_false out L i ws sh ((j + 1 : Nat) : Int)

theorem j2_true (out : List S31) (L : List ByteArray) (i : Nat) (ws : List ByteArray) (r : Res) (hi : i ≤ 1048577) (h : Ev (fun k => caravellaw28_parse.l0 k out L ((i + 1 : Nat) : Int)) r) : Ev (fun k => caravellaw28_parse.j2 k out L (i : Int) ws true) r := by
  refine Ev.step (fun k => ?_) h
  simp only [caravellaw28_parse.j2]
  rw [if_pos (by trivial), up (by omega)]

/-- The loop over the words of one line, from its first on. -/
theorem behind_ev (out : List S31) (L : List ByteArray) (i : Nat) (x : ByteArray) (r : Res) (hi : i ≤ 1048577) (hx : x.size ≤ 1048576) (hout : out.length ≤ 1048577)
    (hnone : lineOf x i = none → r = (([], (i : Int), 50) : Res))
    (hskip : lineOf x i = some none → Ev (fun k => caravellaw28_parse.l0 k out L ((i + 1 : Nat) : Int)) r)
    (hsome : ∀ p, lineOf x i = some (some p) → Ev (fun k => caravellaw28_parse.l0 k (out ++ [want p]) L ((i + 1 : Nat) : Int)) r) :
    Ev (fun k => behind k out L (i : Int) (Seq.wordsOf x)) r := by
  have hlen := wordsOf_len x
  have hw := words_pieces x
  have hpos : ∀ y ∈ Seq.wordsOf x, 0 < y.size := fun y hy => keep_pos hy
  unfold lineOf at hnone hskip hsome
  dsimp only at hnone hskip hsome
  generalize Seq.wordsOf x = ws at *
  by_cases h0 : ws.length = 0
  · rw [if_pos h0] at hskip
    have e : (fun k => behind k out L (i : Int) ws) = fun k => caravellaw28_parse.j2 k out L (i : Int) ws true := by
      funext k
      unfold behind
      rw [if_pos (by omega)]
    rw [e]
    exact j2_true out L i ws r hi (hskip rfl)
  · rw [if_neg h0] at hnone hskip hsome
    obtain ⟨w0, t, rfl⟩ : ∃ w0 t, ws = w0 :: t := List.exists_cons_of_ne_nil (fun e => h0 (by rw [e]; rfl))
    have r0 : rdOf ByteArray.empty (w0 :: t) 0 = w0 := rfl
    have hp0 := hpos w0 (by simp)
    have hw0 := hw w0 (by simp)
    simp only [List.length_cons] at hlen
    rw [r0] at hnone hskip hsome
    rw [List.drop_succ_cons, List.drop_zero] at hnone hskip hsome
    have e : (fun k => behind k out L (i : Int) (w0 :: t)) = fun k => caravellaw28_parse.j2 k out L (i : Int) (w0 :: t) (hashB w0) := by
      funext k
      unfold behind
      rw [if_neg (by simp only [List.length_cons]; omega), if_pos (by simp only [List.length_cons]; omega), r0, if_pos (by omega), hash_bt hp0]
    rw [e]
    cases hh : hashB w0 with
    | true =>
      rw [if_pos hh] at hskip
      exact j2_true out L i _ r hi (hskip rfl)
    | false =>
      rw [if_neg (by simp [hh])] at hnone hskip hsome
      refine Ev.step (f := fun k => (caravellaw28_shape.f k w0).bind fun t121 => (if t121.toList = ([63] : List UInt8) then (caravellaw28_parse.j3 k out L (i : Int) (w0 :: t) t121 false) else (caravellaw28_parse.j3 k out L (i : Int) (w0 :: t) t121 ((t121.size : Int) == (wrap64 (((w0 :: t).length : Int) - 1)))))) (fun k => ?_) ?_
      · simp only [caravellaw28_parse.j2]
        rw [if_neg (by simp), if_pos (by simp only [List.length_cons]; omega), r0]
      · refine Ev.bind (shape_f w0) ?_
        have l63 : ∀ y : ByteArray, y.toList = ([63] : List UInt8) ↔ y = ⟨#[63]⟩ := fun y => by
          rw [ByteArray.toList_eq]
          constructor
          · intro h; exact ByteArray.ext (Array.ext' h)
          · rintro rfl; rfl
        by_cases hk : Shapes.known w0 = true
        · have hq : ¬ (shapeV w0).toList = ([63] : List UInt8) := fun h => by
            have := (shapeV_q w0).1 ((l63 _).1 h)
            rw [this] at hk; cases hk
          have hsv : shapeV w0 = Shapes.shapeD w0 := by unfold shapeV; rw [if_pos hk]
          have hwr : wrap64 (((w0 :: t).length : Int) - 1) = (t.length : Int) := by
            simp only [List.length_cons]; unfold wrap64; omega
          have e3 : (fun k => (if (shapeV w0).toList = ([63] : List UInt8) then (caravellaw28_parse.j3 k out L (i : Int) (w0 :: t) (shapeV w0) false) else (caravellaw28_parse.j3 k out L (i : Int) (w0 :: t) (shapeV w0) (((shapeV w0).size : Int) == (wrap64 (((w0 :: t).length : Int) - 1)))))) = fun k => caravellaw28_parse.j3 k out L (i : Int) (w0 :: t) (Shapes.shapeD w0) (((Shapes.shapeD w0).size : Int) == (t.length : Int)) := by
            funext k
            rw [if_neg hq, hwr, hsv]
          rw [e3]
          refine Ev.step (f := fun k => caravellaw28_parse.l2 k out L (i : Int) (w0 :: t) (Shapes.shapeD w0) (((Shapes.shapeD w0).size : Int) == (t.length : Int)) ((1 : Nat) : Int)) (fun k => rfl) ?_
          by_cases hsz : (Shapes.shapeD w0).size = t.length
          · rw [show (((Shapes.shapeD w0).size : Int) == (t.length : Int)) = true by rw [beq_iff_eq]; omega]
            cases hz : (List.zipWith Shapes.chk (Shapes.shapeD w0).data.toList t).all id with
            | true =>
              have hr : Shapes.rightB w0 t = true := by simp [Shapes.rightB, hk, hsz, hz]
              rw [if_pos hr] at hsome
              refine l2_ev out L i (w0 :: t) (Shapes.shapeD w0) r (by simp; omega) (by simp; omega) (fun y hy => by have := hw y hy; omega) (Shapes.shapeD_bytes w0 hk) hout (fun _ => ?_) (fun hc => by rw [List.drop_succ_cons, List.drop_zero, hz] at hc; cases hc) t.length 1 (by simp; omega) (Nat.le_refl _) rfl
              rw [up (by omega)]
              exact hsome _ rfl
            | false =>
              have hr : Shapes.rightB w0 t = false := by simp [Shapes.rightB, hz]
              rw [if_neg (by simp [hr])] at hnone
              refine l2_ev out L i (w0 :: t) (Shapes.shapeD w0) r (by simp; omega) (by simp; omega) (fun y hy => by have := hw y hy; omega) (Shapes.shapeD_bytes w0 hk) hout (fun hc => by rw [List.drop_succ_cons, List.drop_zero, hz] at hc; cases hc) (fun _ => hnone rfl) t.length 1 (by simp; omega) (Nat.le_refl _) rfl
          · rw [show (((Shapes.shapeD w0).size : Int) == (t.length : Int)) = false by rw [beq_eq_false_iff_ne]; omega]
            have hr : Shapes.rightB w0 t = false := by simp [Shapes.rightB, hsz]
            rw [if_neg (by simp [hr])] at hnone
            rw [hnone rfl]
            exact l2_false out L i _ _ _
        · have hk2 : Shapes.known w0 = false := by simpa using hk
          have hq : (shapeV w0).toList = ([63] : List UInt8) := (l63 _).2 ((shapeV_q w0).2 hk2)
          have hr : Shapes.rightB w0 t = false := by simp [Shapes.rightB, hk2]
          rw [if_neg (by simp [hr])] at hnone
          rw [hnone rfl]
          refine Ev.step (f := fun k => caravellaw28_parse.l2 k out L (i : Int) (w0 :: t) (shapeV w0) false ((1 : Nat) : Int)) (fun k => ?_) (l2_false out L i _ _ _)
          rw [if_pos hq]
          rfl

/-- The loop over the lines, from the i-th on. -/
theorem l0_ev (L : List ByteArray) (hL : L.length ≤ 1048577) (hx : ∀ x ∈ L, x.size ≤ 1048576) : ∀ (d i : Nat) (acc : List P39), i + d = L.length → acc.length ≤ i →
    Ev (fun k => caravellaw28_parse.l0 k (acc.map want) L (i : Int)) (resOf (readL (L.drop i) i acc))
  | 0, i, acc, hd, ha => by
    rw [readL_end (by omega)]
    refine Ev.step (f := fun _ => some (resOf (.inl acc))) (fun k => ?_) (Ev.now _)
    simp only [caravellaw28_parse.l0]
    rw [if_neg (by omega)]
    rfl
  | d + 1, i, acc, hd, ha => by
    have hlt : i < L.length := by omega
    have hsz := hx (L[i]'hlt) (List.getElem_mem hlt)
    rw [readL_at hlt]
    have hb := behind_ev (acc.map want) L i (L[i]'hlt) (resOf (match lineOf (L[i]'hlt) i with
      | none => .inr i
      | some none => readL (L.drop (i + 1)) (i + 1) acc
      | some (some p) => readL (L.drop (i + 1)) (i + 1) (acc ++ [p]))) (by omega) hsz (by simp; omega)
      (fun h => by rw [h]; rfl)
      (fun h => by rw [h]; exact l0_ev L hL hx d (i + 1) acc (by omega) (by omega))
      (fun p h => by
        rw [h]
        have := l0_ev L hL hx d (i + 1) (acc ++ [p]) (by omega) (by simp; omega)
        rw [List.map_append] at this
        exact this)
    have hl := l1_ev (acc.map want) L (i : Int) (Seq.sp 32 (L[i]'hlt)) _ (by have := Seq.sp_len 32 (L[i]'hlt); omega) hb (Seq.sp 32 (L[i]'hlt)).length 0 (by omega)
    have hc := cut_f (L[i]'hlt) 32 hsz
    refine Ev.step (f := fun k => (caravellaw28_cut.f k (L[i]'hlt) ((32 : UInt8).toNat : Int)).bind fun t111 => (caravellaw28_parse.l1 k (acc.map want) L (i : Int) ([] : List ByteArray) t111 0)) (fun k => ?_) (Ev.bind hc hl)
    simp only [caravellaw28_parse.l0]
    rw [if_pos (by omega), if_pos (by omega), rd_nat hlt]
    rfl

theorem parse_big (s : ByteArray) (hs : 1048576 < s.size) : caravellaw28_parse.f 0 s = some ([], 0, 3) := by
  unfold caravellaw28_parse.f
  rw [if_pos (by omega)]

theorem parse_f (s : ByteArray) (hs : s.size ≤ 1048576) : Ev (fun k => caravellaw28_parse.f k s) (resOf (readL (Seq.sp 10 s) 0 [])) := by
  have hl := l0_ev (Seq.sp 10 s) (by have := Seq.sp_len 10 s; omega) (fun x hx => by have := sp_pieces 10 s x hx; omega) (Seq.sp 10 s).length 0 [] (by omega) (Nat.le_refl _)
  have e : (fun k => caravellaw28_parse.f k s) = fun k => (caravellaw28_cut.f k s ((10 : UInt8).toNat : Int)).bind fun t107 => (caravellaw28_parse.l0 k ([] : List (S31)) t107 0) := by
    funext k
    unfold caravellaw28_parse.f
    rw [if_neg (by omega)]
    rfl
  rw [e]
  exact Ev.bind (cut_f s 10 hs) hl
end Plain
end Go.Proofs.YtmgaigbmeenjhaaDoor
