/-
  HpackZero, over the walled translation of its seat: for every b, l and n the law returns true (an encoder and a decoder that are nil, and ones that nobody made, answer ErrZero, and 0), and the arguments read as they did. Conditions: none; eleven functions stand in that translation without a body (walls), and the proof shows that no run comes to one.
-/
import Derived.Test.YtpalohpnciaepaaRows
import Derived.WalkKit
import Derived.WalkSpells
import Derived.WalkLawsBesides
import Derived.Lib.Hide
namespace Go.Proofs.Ytpalohpnciaepaa
open Go.RowKit

set_option maxHeartbeats 400000 in
theorem enone_nil (w : World) :
    Calls Try.prog 10 #[.pointer none] w fun e w' => e = .returned (.bool true) ∧ w = w' := by
  go_enter Try.func10, Try.ntmps10
  go_wp2
  go_ret
  exact ⟨rfl, rfl⟩

set_option maxHeartbeats 400000 in
theorem enone_zero (b : Nat) (w : World) (hc : w.cell? ⟨b, 0, none⟩ = some (.pointer none)) :
    Calls Try.prog 10 #[.pointer (some ⟨b, 0, none⟩)] w fun e w' => e = .returned (.bool true) ∧ w = w' := by
  go_enter Try.func10, Try.ntmps10
  go_wp2
  go_ret
  exact ⟨rfl, rfl⟩

set_option maxHeartbeats 400000 in
theorem dnone_nil (w : World) :
    Calls Try.prog 13 #[.pointer none] w fun e w' => e = .returned (.bool true) ∧ w = w' := by
  go_enter Try.func13, Try.ntmps13
  go_wp2
  go_ret
  exact ⟨rfl, rfl⟩

set_option maxHeartbeats 400000 in
theorem dnone_zero (b : Nat) (w : World) (hc : w.cell? ⟨b, 0, none⟩ = some (.pointer none)) :
    Calls Try.prog 13 #[.pointer (some ⟨b, 0, none⟩)] w fun e w' => e = .returned (.bool true) ∧ w = w' := by
  go_enter Try.func13, Try.ntmps13
  go_wp2
  go_ret
  exact ⟨rfl, rfl⟩

/-- An encoder whose table nobody made: by the value of its first cell. -/
def NoTable (v : Value) (w : World) : Prop := v = .pointer none ∨ ∃ b, v = .pointer (some ⟨b, 0, none⟩) ∧ w.cell? ⟨b, 0, none⟩ = some (.pointer none)

theorem enone (v : Value) (w : World) (h : NoTable v w) : Calls Try.prog 10 #[v] w fun e w' => e = .returned (.bool true) ∧ w = w' := by
  rcases h with rfl | ⟨b, rfl, hc⟩
  · exact enone_nil w
  · exact enone_zero b w hc

theorem dnone (v : Value) (w : World) (h : NoTable v w) : Calls Try.prog 13 #[v] w fun e w' => e = .returned (.bool true) ∧ w = w' := by
  rcases h with rfl | ⟨b, rfl, hc⟩
  · exact dnone_nil w
  · exact dnone_zero b w hc

set_option maxHeartbeats 400000 in
theorem encode_none (v l : Value) (w : World) (h : NoTable v w) :
    Calls Try.prog 4 #[v, l] w fun e w' => e = .returned (.tuple #[.slice none 0 0, .int .i64 7]) ∧ w = w' := by
  have H := Lib.hid h
  clear h
  go_enter Try.func4, Try.ntmps4
  go_wp2_with (go_at_call 10; refine (enone _ _ H.out).mono ?_; rintro e w' ⟨rfl, rfl⟩)
  go_ret2
  exact ⟨rfl, rfl⟩

set_option maxHeartbeats 400000 in
theorem limit_none (v n : Value) (w : World) (h : NoTable v w) :
    Calls Try.prog 6 #[v, n] w fun e w' => e = .returned (.int .i64 7) ∧ w = w' := by
  have H := Lib.hid h
  clear h
  go_enter Try.func6, Try.ntmps6
  go_wp2_with (go_at_call 10; refine (enone _ _ H.out).mono ?_; rintro e w' ⟨rfl, rfl⟩)
  go_ret
  exact ⟨rfl, rfl⟩

set_option maxHeartbeats 400000 in
theorem ebytes_none (v : Value) (w : World) (h : NoTable v w) :
    Calls Try.prog 7 #[v] w fun e w' => e = .returned (.int .i64 0) ∧ w = w' := by
  have H := Lib.hid h
  clear h
  go_enter Try.func7, Try.ntmps7
  go_wp2_with (go_at_call 10; refine (enone _ _ H.out).mono ?_; rintro e w' ⟨rfl, rfl⟩)
  go_ret
  exact ⟨rfl, rfl⟩

set_option maxHeartbeats 400000 in
theorem dbytes_none (v : Value) (w : World) (h : NoTable v w) :
    Calls Try.prog 8 #[v] w fun e w' => e = .returned (.int .i64 0) ∧ w = w' := by
  have H := Lib.hid h
  clear h
  go_enter Try.func8, Try.ntmps8
  go_wp2_with (go_at_call 13; refine (dnone _ _ H.out).mono ?_; rintro e w' ⟨rfl, rfl⟩)
  go_ret
  exact ⟨rfl, rfl⟩

set_option maxHeartbeats 400000 in
theorem most_none (v : Value) (w : World) (h : NoTable v w) :
    Calls Try.prog 9 #[v] w fun e w' => e = .returned (.int .i64 0) ∧ w = w' := by
  have H := Lib.hid h
  clear h
  go_enter Try.func9, Try.ntmps9
  go_wp2_with (go_at_call 13; refine (dnone _ _ H.out).mono ?_; rintro e w' ⟨rfl, rfl⟩)
  go_ret
  exact ⟨rfl, rfl⟩

theorem noTable_below {v : Value} {w w' : World} (h : NoTable v w) (hb : Below w.heap.size w w') : NoTable v w' := by
  rcases h with rfl | ⟨b, rfl, hc⟩
  · exact .inl rfl
  · refine .inr ⟨b, rfl, ?_⟩
    have hlt : b < w.heap.size := by
      rcases Nat.lt_or_ge b w.heap.size with h | h
      · exact h
      · simp [World.cell?, h] at hc
    rw [hb.cell (p := ⟨b, 0, none⟩) hlt]
    exact hc

theorem below_four (w : World) (a b c d : Obj) : Below w.heap.size w ((((w.alloc a).alloc b).alloc c).alloc d) := by
  have h1 := (Below.refl w.heap.size w).alloc (Nat.le_refl _) a
  have h2 := h1.alloc h1.size b
  have h3 := h2.alloc h2.size c
  exact h3.alloc h3.size d

set_option maxHeartbeats 400000 in
theorem decode_none (x : Option Addr) (l : Value) (w : World) (h : NoTable (.pointer x) w) :
    Calls Try.prog 5 #[.pointer x, l] w fun e w' => e = .returned (.tuple #[.slice none 0 0, .int .i64 0, .int .i64 7]) ∧ Below w.heap.size w w' := by
  have H := Lib.hid h
  clear h
  go_enter Try.func5, Try.ntmps5
  go_wp2_with (go_at_call 13; refine (dnone _ _ (noTable_below H.out (below_four _ _ _ _ _))).mono ?_; rintro e w' ⟨rfl, rfl⟩)
  refine bodyPost_ret (v := .tuple #[.slice none 0 0, .int .i64 0, .int .i64 7]) (by simp [results, Try.results5, go_sem]) rfl ⟨rfl, below_four _ _ _ _ _⟩


theorem noTable_two {w w1 : World} {us vs : Array Value} {t t' : TypeId} (hu : us[0]? = some (.pointer none)) (hv : vs[0]? = some (.pointer none))
    (h : Below ((w.alloc (.cells us t)).alloc (.cells vs t')).heap.size ((w.alloc (.cells us t)).alloc (.cells vs t')) w1) :
    NoTable (.pointer (some ⟨w.heap.size, 0, none⟩)) w1 ∧ NoTable (.pointer (some ⟨w.heap.size + 1, 0, none⟩)) w1 ∧ Below w.heap.size w w1 := by
  have hb : Below w.heap.size w ((w.alloc (.cells us t)).alloc (.cells vs t')) := by
    have h1 := (Below.refl w.heap.size w).alloc (Nat.le_refl _) (.cells us t)
    exact h1.alloc h1.size (.cells vs t')
  have hsz : ((w.alloc (.cells us t)).alloc (.cells vs t')).heap.size = w.heap.size + 2 := by simp
  have e0 : ((w.alloc (.cells us t)).alloc (.cells vs t')).cell? ⟨w.heap.size, 0, none⟩ = some (.pointer none) := by
    rw [World.cell?_alloc_past (w := w.alloc (.cells us t)) _ _ _ (by simp), World.cell?_alloc_at _ _ _ _ rfl]
    exact hu
  have e1 : ((w.alloc (.cells us t)).alloc (.cells vs t')).cell? ⟨w.heap.size + 1, 0, none⟩ = some (.pointer none) := by
    rw [World.cell?_alloc_at (w := w.alloc (.cells us t)) _ _ _ _ (by simp)]
    exact hv
  exact ⟨noTable_below (.inr ⟨_, rfl, e0⟩) h, noTable_below (.inr ⟨_, rfl, e1⟩) h, hb.trans (h.mono (by rw [hsz]; omega))⟩

set_option maxHeartbeats 1000000 in
theorem law_walk (b l : Value) (n : Int) (w : World) :
    Calls Try.prog 3 #[b, l, .int .i64 n] w fun e w' => e = .returned (.bool true) ∧ Below w.heap.size w w' := by
  go_enter Try.func3, Try.ntmps3
  go_wp2_with fail
  refine (encode_none _ _ _ (.inl rfl)).mono ?_
  rintro e w' ⟨rfl, rfl⟩
  go_wp2_with fail
  refine (decode_none _ _ _ (.inl rfl)).mono ?_
  rintro e w1 ⟨rfl, hb1⟩
  obtain ⟨nu, nv, hbl⟩ := noTable_two rfl rfl hb1
  have HU := Lib.hid nu
  have HV := Lib.hid nv
  have HB := Lib.hid hbl
  clear hb1 nu nv hbl
  go_wp2_with fail
  refine (encode_none _ _ _ HU.out).mono ?_
  rintro e w' ⟨rfl, rfl⟩
  go_wp2_with fail
  refine (decode_none _ _ _ HV.out).mono ?_
  rintro e w2 ⟨rfl, hb2⟩
  have KU := Lib.hid (noTable_below HU.out hb2)
  have KV := Lib.hid (noTable_below HV.out hb2)
  have KB := Lib.hid (HB.out.trans (hb2.mono HB.out.size))
  clear hb2 HU HV HB
  go_wp2_with fail
  refine (limit_none _ _ _ (.inl rfl)).mono ?_
  rintro e w' ⟨rfl, rfl⟩
  go_wp2_with fail
  refine (ebytes_none _ _ KU.out).mono ?_
  rintro e w' ⟨rfl, rfl⟩
  go_wp2_with fail
  refine (dbytes_none _ _ (.inl rfl)).mono ?_
  rintro e w' ⟨rfl, rfl⟩
  go_wp2_with fail
  refine (most_none _ _ KV.out).mono ?_
  rintro e w' ⟨rfl, rfl⟩
  go_wp2_with fail
  go_ret
  exact ⟨rfl, KB.out⟩

end Go.Proofs.Ytpalohpnciaepaa
