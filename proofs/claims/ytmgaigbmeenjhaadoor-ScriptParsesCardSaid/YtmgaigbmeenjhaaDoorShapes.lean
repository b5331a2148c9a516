/- The walks of script.shapes (function 24: a map of texts that the call makes) and of script.right (function 16). -/
import Derived.Test.YtmgaigbmeenjhaaDoorCuts
import Derived.Maps.OwnSet
import Derived.Maps.OwnOps
import Derived.Test.YtmgaigbmeenjhaaDoorPparsex0
namespace Go.Proofs.YtmgaigbmeenjhaaDoor
open Go.RowKit
namespace Shapes

/-- The table in the order in which the program writes it. -/
def full : List (ByteArray × ByteArray) := [(⟨#[99, 108, 105, 101, 110, 116]⟩, ⟨#[]⟩), (⟨#[97, 99, 99, 101, 112, 116]⟩, ⟨#[]⟩), (⟨#[108, 101, 110]⟩, ⟨#[]⟩), (⟨#[116, 105, 109, 101]⟩, ⟨#[]⟩), (⟨#[111, 112, 101, 110]⟩, ⟨#[110, 110]⟩), (⟨#[115, 111, 112, 101, 110]⟩, ⟨#[110, 110]⟩), (⟨#[119, 114, 105, 116, 101]⟩, ⟨#[110, 110, 116]⟩), (⟨#[115, 119, 114, 105, 116, 101]⟩, ⟨#[110, 110, 116]⟩), (⟨#[102, 105, 110, 105, 115, 104]⟩, ⟨#[110, 110]⟩), (⟨#[115, 102, 105, 110, 105, 115, 104]⟩, ⟨#[110, 110]⟩), (⟨#[114, 101, 97, 100]⟩, ⟨#[110, 110]⟩), (⟨#[115, 114, 101, 97, 100]⟩, ⟨#[110, 110]⟩), (⟨#[112, 111, 115, 116]⟩, ⟨#[110, 116]⟩), (⟨#[115, 112, 111, 115, 116]⟩, ⟨#[110, 116]⟩), (⟨#[102, 101, 116, 99, 104]⟩, ⟨#[110]⟩), (⟨#[115, 102, 101, 116, 99, 104]⟩, ⟨#[110]⟩), (⟨#[114, 117, 110]⟩, ⟨#[110]⟩), (⟨#[100, 114, 111, 112]⟩, ⟨#[110]⟩), (⟨#[112, 97, 115, 115]⟩, ⟨#[110]⟩), (⟨#[115, 116, 97, 116, 101]⟩, ⟨#[110]⟩), (⟨#[115, 115, 116, 97, 116, 101]⟩, ⟨#[110]⟩), (⟨#[99, 108, 111, 115, 101]⟩, ⟨#[110, 110]⟩), (⟨#[115, 99, 108, 111, 115, 101]⟩, ⟨#[110, 110]⟩)]

def ents (l : List (ByteArray × ByteArray)) : Array MapEntry := (l.zipIdx.map fun (p, i) => ({ key := .string p.1, val := .string p.2, born := i } : MapEntry)).toArray
def strMap (l : List (ByteArray × ByteArray)) : Obj := .map (ents l) l.length
def sm (i : Nat) : Obj := strMap (full.take i)

theorem ents_snoc (l : List (ByteArray × ByteArray)) (p : ByteArray × ByteArray) : (ents l).push { key := .string p.1, val := .string p.2, born := l.length } = ents (l ++ [p]) := by
  unfold ents
  rw [List.zipIdx_append]
  simp
/-- The search in the entries. -/
theorem find_ents (kd : TypeDesc) (hk : kd = .string) (k : ByteArray) : ∀ (l : List (ByteArray × ByteArray)) (n i : Nat),
    Instr.findNow kd (.string k) (l.zipIdx n |>.map fun (p, i) => ({ key := .string p.1, val := .string p.2, born := i } : MapEntry)) i = some ((l.findIdx? (fun p => k == p.1)).map fun j => (i + j, .string ((l[j]?.getD (k, k)).2)))
  | [], n, i => rfl
  | p :: l, n, i => by
    subst hk
    have ih := find_ents .string rfl k l (n + 1) (i + 1)
    simp only [List.zipIdx_cons, List.map_cons, Instr.findNow, Instr.sameNow]
    rw [List.findIdx?_cons]
    cases h : (k == p.1)
    · simp only [Bool.false_eq_true, if_false, ih]
      cases l.findIdx? (fun p => k == p.1) with
      | none => rfl
      | some j => simp; omega
    · simp

theorem run_insert (W : World) (b : Nat) (l : List (ByteArray × ByteArray)) (k v : ByteArray) (hW : W.heap[b]? = some (strMap l)) (hn : l.findIdx? (fun p => k == p.1) = none) :
    (Instr.mapUpdate 72 (.map (some b)) (.string k) (.string v)).run Tryd.prog W = .ok () { W with heap := W.heap.setIfInBounds b (strMap (l ++ [(k, v)])) } := by
  have hf := find_ents .string rfl k l 0 0
  rw [hn] at hf
  have hg := MapKept.run_getObj_map (P := Tryd.prog) hW
  have hc := MapKept.run_checkKey (P := Tryd.prog) (w := W) Tryd.underlying9 (k := .string k) trivial false 9999
  have hk := MapKept.run_findKey (P := Tryd.prog) (w := W) Tryd.underlying9 (k := .string k) (l := (ents l).toList) hf
  have hs := MapKept.run_setObj_map (P := Tryd.prog) (.map ((ents l).push { key := .string k, val := .string v, born := l.length }) (l.length + 1)) hW
  unfold Instr.mapUpdate
  simp only [Sem.run_bind, run_underlying Tryd.underlying72, Result.andThen, hg, hc, hk, Option.map_none]
  rw [hs]
  have : strMap (l ++ [(k, v)]) = .map ((ents l).push { key := .string k, val := .string v, born := l.length }) (l.length + 1) := by
    unfold strMap
    rw [ents_snoc l (k, v)]
    simp
  rw [this]
theorem full_take (i : Nat) (k v : ByteArray) (h : full[i]? = some (k, v)) : full.take (i + 1) = full.take i ++ [(k, v)] := by
  obtain ⟨hl, e⟩ := List.getElem?_eq_some_iff.1 h
  rw [List.take_succ_eq_append_getElem hl, e]
theorem set_alloc (w : World) (o o' : Obj) : { w.alloc o with heap := (w.alloc o).heap.setIfInBounds w.heap.size o' } = w.alloc o' := by
  simp only [World.alloc]
  congr 1
  apply Array.ext'
  simp [Array.setIfInBounds, Array.toList_push]
theorem ins_gen (w : World) (l : List (ByteArray × ByteArray)) (k v : ByteArray) (hn : l.findIdx? (fun p => k == p.1) = none) :
    (Instr.mapUpdate 72 (.map (some w.heap.size)) (.string k) (.string v)).run Tryd.prog (w.alloc (strMap l)) = .ok () (w.alloc (strMap (l ++ [(k, v)]))) :=
  (run_insert (w.alloc (strMap l)) w.heap.size l k v (MapKept.heap_alloc w (strMap l)).1 hn).trans (congrArg (Result.ok ()) (set_alloc w _ _))
theorem ins_fact (w : World) (i : Nat) (k v : ByteArray) (hn : (full.take i).findIdx? (fun p => k == p.1) = none) (h : full[i]? = some (k, v)) :
    (Instr.mapUpdate 72 (.map (some w.heap.size)) (.string k) (.string v)).run Tryd.prog (w.alloc (sm i)) = .ok () (w.alloc (sm (i + 1))) := by
  have h1 := ins_gen w (full.take i) k v hn
  rw [← full_take i k v h] at h1
  exact h1
theorem make_fact (w : World) : (Instr.makeMap 72 none).run Tryd.prog w = .ok (.map (some w.heap.size)) (w.alloc (sm 0)) := run_makeMap (P := Tryd.prog) 72 w

set_option maxHeartbeats 1000000 in
/-- script.shapes: a new map that holds the table. -/
theorem shapes_walk (w : World) : Calls Tryd.prog 24 #[] w fun e w' => e = .returned (.map (some w.heap.size)) ∧ w' = w.alloc (sm 23) := by
  have hm := make_fact w
  have h0 := ins_fact w 0 ⟨#[99, 108, 105, 101, 110, 116]⟩ ⟨#[]⟩ (by decide) rfl
  have h1 := ins_fact w 1 ⟨#[97, 99, 99, 101, 112, 116]⟩ ⟨#[]⟩ (by decide) rfl
  have h2 := ins_fact w 2 ⟨#[108, 101, 110]⟩ ⟨#[]⟩ (by decide) rfl
  have h3 := ins_fact w 3 ⟨#[116, 105, 109, 101]⟩ ⟨#[]⟩ (by decide) rfl
  have h4 := ins_fact w 4 ⟨#[111, 112, 101, 110]⟩ ⟨#[110, 110]⟩ (by decide) rfl
  have h5 := ins_fact w 5 ⟨#[115, 111, 112, 101, 110]⟩ ⟨#[110, 110]⟩ (by decide) rfl
  have h6 := ins_fact w 6 ⟨#[119, 114, 105, 116, 101]⟩ ⟨#[110, 110, 116]⟩ (by decide) rfl
  have h7 := ins_fact w 7 ⟨#[115, 119, 114, 105, 116, 101]⟩ ⟨#[110, 110, 116]⟩ (by decide) rfl
  have h8 := ins_fact w 8 ⟨#[102, 105, 110, 105, 115, 104]⟩ ⟨#[110, 110]⟩ (by decide) rfl
  have h9 := ins_fact w 9 ⟨#[115, 102, 105, 110, 105, 115, 104]⟩ ⟨#[110, 110]⟩ (by decide) rfl
  have h10 := ins_fact w 10 ⟨#[114, 101, 97, 100]⟩ ⟨#[110, 110]⟩ (by decide) rfl
  have h11 := ins_fact w 11 ⟨#[115, 114, 101, 97, 100]⟩ ⟨#[110, 110]⟩ (by decide) rfl
  have h12 := ins_fact w 12 ⟨#[112, 111, 115, 116]⟩ ⟨#[110, 116]⟩ (by decide) rfl
  have h13 := ins_fact w 13 ⟨#[115, 112, 111, 115, 116]⟩ ⟨#[110, 116]⟩ (by decide) rfl
  have h14 := ins_fact w 14 ⟨#[102, 101, 116, 99, 104]⟩ ⟨#[110]⟩ (by decide) rfl
  have h15 := ins_fact w 15 ⟨#[115, 102, 101, 116, 99, 104]⟩ ⟨#[110]⟩ (by decide) rfl
  have h16 := ins_fact w 16 ⟨#[114, 117, 110]⟩ ⟨#[110]⟩ (by decide) rfl
  have h17 := ins_fact w 17 ⟨#[100, 114, 111, 112]⟩ ⟨#[110]⟩ (by decide) rfl
  have h18 := ins_fact w 18 ⟨#[112, 97, 115, 115]⟩ ⟨#[110]⟩ (by decide) rfl
  have h19 := ins_fact w 19 ⟨#[115, 116, 97, 116, 101]⟩ ⟨#[110]⟩ (by decide) rfl
  have h20 := ins_fact w 20 ⟨#[115, 115, 116, 97, 116, 101]⟩ ⟨#[110]⟩ (by decide) rfl
  have h21 := ins_fact w 21 ⟨#[99, 108, 111, 115, 101]⟩ ⟨#[110, 110]⟩ (by decide) rfl
  have h22 := ins_fact w 22 ⟨#[115, 99, 108, 111, 115, 101]⟩ ⟨#[110, 110]⟩ (by decide) rfl
  go_enter Tryd.func24, Tryd.ntmps24
  go_wp2
  go_ret
  exact ⟨rfl, rfl⟩

def shapeIx (s : ByteArray) : Option Nat := full.findIdx? (fun p => s == p.1)
def shapeD (s : ByteArray) : ByteArray := match shapeIx s with
  | some j => (full[j]?.getD (s, s)).2
  | none => ⟨#[]⟩
def known (s : ByteArray) : Bool := (shapeIx s).isSome
theorem look_fact (w : World) (s : ByteArray) : (Instr.lookup 72 (.map (some w.heap.size)) (.string s) true).run Tryd.prog (w.alloc (sm 23)) = .ok (.tuple #[.string (shapeD s), .bool (known s)]) (w.alloc (sm 23)) := by
  have hW : (w.alloc (sm 23)).heap[w.heap.size]? = some (strMap full) := (MapKept.heap_alloc w (sm 23)).1
  generalize w.alloc (sm 23) = W at *
  have hf := find_ents .string rfl s full 0 0
  have hg := MapKept.run_getObj_map (P := Tryd.prog) hW
  have hc := MapKept.run_checkKey (P := Tryd.prog) (w := W) Tryd.underlying9 (k := .string s) trivial (ents full).isEmpty 9999
  have hk := MapKept.run_findKey (P := Tryd.prog) (w := W) Tryd.underlying9 (k := .string s) (l := (ents full).toList) hf
  unfold Instr.lookup
  simp only [Sem.run_bind, run_underlying Tryd.underlying72, Result.andThen, hg, hc, hk, Sem.run_pure]
  unfold shapeD known shapeIx
  generalize full.findIdx? (fun p => s == p.1) = o
  cases o with
  | none =>
    have hz : (zeroValue 9).run Tryd.prog W = .ok (.string ⟨#[]⟩) W := by kernel_rfl
    simp [hz, Result.andThen]
  | some j =>
    simp

/-! ### right -/
open Go.Proofs.YtmgaigbmeenjhaaDoorW.PrintWords
def chk (k : UInt8) (x : ByteArray) : Bool := if k = 110 then Cuts.isNum x else if k = 116 then Cuts.isTxt x else true
def rightB (s : ByteArray) (l : List ByteArray) : Bool := known s && (shapeD s).size == l.length && (List.zipWith chk (shapeD s).data.toList l).all id
theorem full_bytes : ∀ p ∈ full, ∀ b ∈ p.2.data.toList, b = 110 ∨ b = 116 := by decide
theorem shapeD_bytes (s : ByteArray) (hk : known s = true) : ∀ b ∈ (shapeD s).data.toList, b = 110 ∨ b = 116 := by
  unfold known at hk
  unfold shapeD
  cases h : shapeIx s with
  | none => rw [h] at hk; cases hk
  | some j =>
    dsimp only
    have hj : j < full.length := (List.findIdx?_eq_some_iff_getElem.1 h).1
    rw [List.getElem?_eq_getElem hj]
    exact full_bytes _ (List.getElem_mem hj)

set_option maxHeartbeats 4000000 in
set_option maxRecDepth 1000000 in
theorem right_walk (s : ByteArray) (l : List ByteArray) (A : Option Addr) (c : Nat) (w : World) (hR : Kd.string.C w A l.length l) (hs : ∀ x ∈ l, x.size ≤ 9223372036854775807) (hT : Lib.Utf8Tabs 2 3 w) :
    Calls Tryd.prog 16 #[.string s, .slice A l.length c] w fun e w' => e = .returned (.bool (rightB s l)) ∧ Below w.heap.size w w' := by
  have HT := Lib.hid hT
  have HR := Lib.hid hR
  have HS := Lib.hid hs
  clear hT hR hs
  have hlk := look_fact w s
  have hbm : Below w.heap.size w (w.alloc (sm 23)) := (Below.refl _ w).alloc (Nat.le_refl _) _
  cases hk : known s with
  | false =>
    have H : Hid (rightB s l = false) := by simp [Hid, rightB, hk]
    rw [hk] at hlk
    clear hk
    go_enter Tryd.func16, Tryd.ntmps16
    go_wp2_with (go_at_call 24; (refine (shapes_walk w).mono ?_); rintro e w1 ⟨rfl, rfl⟩)
    go_ret
    exact ⟨by rw [H.out]; rfl, hbm⟩
  | true =>
    have HB := Lib.hid (shapeD_bytes s hk)
    rw [hk] at hlk
    have HQ : Hid (rightB s l = ((shapeD s).size == l.length && (List.zipWith chk (shapeD s).data.toList l).all id)) := by simp [Hid, rightB, hk]
    clear hk
    generalize shapeD s = sh at *
    by_cases hsz : sh.size = l.length
    · have hne : ((sh.size : Int) != (l.length : Int)) = false := by rw [hsz]; simp
      have HQ2 : Hid (rightB s l = (List.zipWith chk sh.data.toList l).all id) := by rw [Hid, HQ.out, hsz]; simp
      have HSZ := Lib.hid hsz
      clear HQ hsz
      go_enter Tryd.func16, Tryd.ntmps16
      go_wp2_with (go_at_call 24; (refine (shapes_walk w).mono ?_); rintro e w1 ⟨rfl, rfl⟩)
      have hw0 : Hid (w.heap.size + 1 = (w.alloc (sm 23)).heap.size) := by simp [Hid]
      generalize w.alloc (sm 23) = w0 at *
      clear hlk
      go_loopw [] (fun wr => ∃ j : Nat, wr.heap[w.heap.size + 1]? = some (.stringIter sh j) ∧ Hid (j ≤ sh.size) ∧ Hid (((List.zipWith chk sh.data.toList l).take j).all id = true) ∧ Below w.heap.size w wr) (fun wr => sh.size - wr.iterPos (w.heap.size + 1))
      case atStart =>
        refine ⟨0, ?_, Nat.zero_le _, by simp [Hid], hbm.alloc (by have := hw0.out; omega) _⟩
        rw [hw0.out]; exact World.iter_heap w0 sh 0
      case round =>
        obtain ⟨j, hj1, hj2, hj3, hj4⟩ := hrel
        have hlt2 : w.heap.size + 1 < wr.heap.size := (Array.getElem?_eq_some_iff.1 hj1).1
        have Hip : Hid (wr.iterPos (w.heap.size + 1) = j) := iterPos_of hj1
        by_cases hjs : j < sh.size
        · have hb := HB.out (sh[j]'hjs) (Array.getElem_mem_toList _)
          have hb1 : (sh[j]'hjs).toNat < 128 := by rcases hb with hb | hb <;> (rw [hb]; decide)
          have hnx2 : ∀ ty, (Instr.next (.pointer (some ⟨w.heap.size + 1, 0, none⟩)) true ty).run Tryd.prog wr = _ := fun ty => Lib.run_next_ascii_at wr (w.heap.size + 1) sh j ty hj1 hjs hb1
          have hj1' := Lib.iterAt_heap wr (w.heap.size + 1) sh j (j + 1) hj1
          have hj4' := Lib.below_iterAt hj4 (k := w.heap.size + 1) (by omega) sh (j + 1)
          have hlj : j < l.length := by rw [← HSZ.out]; exact hjs
          have HZ : Hid ((List.zipWith chk sh.data.toList l).take (j + 1) = (List.zipWith chk sh.data.toList l).take j ++ [chk (sh[j]'hjs) (l[j]'hlj)]) := by
            rw [Hid, List.take_succ_eq_append_getElem (by rw [List.length_zipWith, Nat.lt_min]; exact ⟨by simpa using hjs, hlj⟩)]
            congr 2
            rw [List.getElem_zipWith]
            rfl
          have HC := Kd.at_string (Kd.C_below (HR.out) (hj4'.mono (Nat.le_refl _))) j (by omega) (by omega)
          have Hsx := Lib.hid (HS.out (l[j]'hlj) (List.getElem_mem hlj))
          have HT2 := Lib.hid (Cuts.tabs_below HT.out hj4')
          have hrd : rdOf ByteArray.empty l (j : Int) = l[j]'hlj := by simp [rdOf, hlj]
          rw [hrd, Int.toNat_natCast] at HC
          clear hrd hb1
          have Hb := Lib.hid hb
          clear hb
          generalize wr.iterAt (w.heap.size + 1) sh (j + 1) = w3 at *
          generalize l[j]'hlj = x at *
          generalize sh[j]'hjs = k at *
          have hltx : w.heap.size + 1 < w3.heap.size := (Array.getElem?_eq_some_iff.1 hj1').1
          obtain ⟨ad, rfl, hc⟩ := HC
          rcases Hb.out with rfl | rfl
          · have hkk : ((UInt8.toNat 110 : Nat) : Int) = 110 := rfl
            cases hn : Cuts.isNum x with
            | true =>
              have Hn := Lib.hid hn
              have HK : Hid (chk 110 x = true) := by rw [Hid, chk, if_pos rfl]; exact hn
              clear hn
              go_wp2_with (go_at_call 25; (refine (Cuts.isNumber_walk x w3 Hsx.out HT2.out).mono ?_); rw [Hn.out]; rintro e w4 ⟨rfl, hb4⟩)
              have hj5 : w4.heap[w.heap.size + 1]? = some (.stringIter sh (j + 1)) := (hb4.block _ hltx).trans hj1'
              have Hip2 : Hid (w4.iterPos (w.heap.size + 1) = j + 1) := iterPos_of hj5
              go_roundw
              case rel => exact ⟨j + 1, hj5, hjs, by rw [Hid, HZ.out, List.all_append, hj3.out, HK.out]; rfl, hj4'.trans (hb4.mono (by have := hj4'.size; omega))⟩
              case measure => rw [Hip.out, Hip2.out]; omega
            | false =>
              have Hn := Lib.hid hn
              have HK : Hid (chk 110 x = false) := by rw [Hid, chk, if_pos rfl]; exact hn
              clear hn
              go_wp2_with (go_at_call 25; (refine (Cuts.isNumber_walk x w3 Hsx.out HT2.out).mono ?_); rw [Hn.out]; rintro e w4 ⟨rfl, hb4⟩)
              go_ret
              exact ⟨by
                have hm : chk 110 x ∈ (List.zipWith chk sh.data.toList l) := List.mem_of_mem_take (i := j + 1) (by rw [HZ.out]; simp)
                have : (List.zipWith chk sh.data.toList l).all id = false := by
                  rw [List.all_eq_false]
                  exact ⟨_, hm, by rw [HK.out]; simp⟩
                rw [HQ2.out, this]; rfl, hj4'.trans (hb4.mono (by have := hj4'.size; omega))⟩
          · have hkk : ((UInt8.toNat 116 : Nat) : Int) = 116 := rfl
            cases hn : Cuts.isTxt x with
            | true =>
              have Hn := Lib.hid hn
              have HK : Hid (chk 116 x = true) := by rw [Hid, chk, if_neg (by decide), if_pos rfl]; exact hn
              clear hn
              go_wp2_with (go_at_call 26; (refine (Cuts.isText_walk x w3 Hsx.out HT2.out).mono ?_); rw [Hn.out]; rintro e w4 ⟨rfl, hb4⟩)
              have hj5 : w4.heap[w.heap.size + 1]? = some (.stringIter sh (j + 1)) := (hb4.block _ hltx).trans hj1'
              have Hip2 : Hid (w4.iterPos (w.heap.size + 1) = j + 1) := iterPos_of hj5
              go_roundw
              case rel => exact ⟨j + 1, hj5, hjs, by rw [Hid, HZ.out, List.all_append, hj3.out, HK.out]; rfl, hj4'.trans (hb4.mono (by have := hj4'.size; omega))⟩
              case measure => rw [Hip.out, Hip2.out]; omega
            | false =>
              have Hn := Lib.hid hn
              have HK : Hid (chk 116 x = false) := by rw [Hid, chk, if_neg (by decide), if_pos rfl]; exact hn
              clear hn
              go_wp2_with (go_at_call 26; (refine (Cuts.isText_walk x w3 Hsx.out HT2.out).mono ?_); rw [Hn.out]; rintro e w4 ⟨rfl, hb4⟩)
              go_ret
              exact ⟨by
                have hm : chk 116 x ∈ (List.zipWith chk sh.data.toList l) := List.mem_of_mem_take (i := j + 1) (by rw [HZ.out]; simp)
                have : (List.zipWith chk sh.data.toList l).all id = false := by
                  rw [List.all_eq_false]
                  exact ⟨_, hm, by rw [HK.out]; simp⟩
                rw [HQ2.out, this]; rfl, hj4'.trans (hb4.mono (by have := hj4'.size; omega))⟩
        · have hnx2 : ∀ ty, (Instr.next (.pointer (some ⟨w.heap.size + 1, 0, none⟩)) true ty).run Tryd.prog wr = _ := fun ty => Lib.run_next_end_at wr (w.heap.size + 1) sh j ty hj1 hjs
          go_wp2
          go_ret
          exact ⟨by
            have h3 := hj3.out
            rw [List.take_of_length_le (by rw [List.length_zipWith]; have := HSZ.out; simp; omega)] at h3
            rw [HQ2.out, h3]; rfl, hj4⟩
    · have hne : ((sh.size : Int) != (l.length : Int)) = true := by rw [bne_iff_ne]; omega
      have H : Hid (rightB s l = false) := by rw [Hid, HQ.out]; simp [hsz]
      clear HQ hsz
      go_enter Tryd.func16, Tryd.ntmps16
      go_wp2_with (go_at_call 24; (refine (shapes_walk w).mono ?_); rintro e w1 ⟨rfl, rfl⟩)
      go_ret
      exact ⟨by rw [H.out]; rfl, hbm⟩
end Shapes
end Go.Proofs.YtmgaigbmeenjhaaDoor
