/-
  Package bellhopref03: Same, Has.
-/
import Derived.Test.YtelepohdfcjnfaaZSetSpec
namespace Go.Proofs.Ytelepohdfcjnfaa
open Go.RowKit Go.Proofs

def same (a b : List Int) : Bool := decide (a = b)
theorem same_iff (a b : List Int) : same a b = true ↔ a = b := by unfold same; simp
theorem same_no {a b : List Int} (h : a ≠ b) : same a b = false := by unfold same; simpa using h

set_option maxHeartbeats 2000000 in
set_option maxRecDepth 100000 in
theorem refSame_any (a : Option Addr) (cap : Nat) (la : List Int) (b : Option Addr) (capb : Nat) (lb : List Int) (w : World) (h : SlA w a la.length cap (ints la)) (hb : SlA w b lb.length capb (ints lb)) :
    Calls Try.prog 39 #[.slice a la.length cap, .slice b lb.length capb] w fun e w' => e = .returned (.bool (same la lb)) ∧ ∃ q, w' = w.drewN q := by
  have hle := h.le
  have hmx := h.max
  have H := Lib.hid h; clear h
  have HB := Lib.hid hb; clear hb
  by_cases hlen : la.length = lb.length
  · have hlz : ((la.length : Int) != (lb.length : Int)) = false := by simp [hlen]
    generalize hr : same la lb = r
    have HR := Lib.hid hr; clear hr
    go_enter Try.func39, Try.ntmps39
    go_wp2_with fail
    clear hlz
    go_loopw [5] (fun iv wr => ∃ k : Nat, iv = .int .i64 k ∧ k ≤ la.length ∧ la.take k = lb.take k ∧ ∃ q, wr = w.drewN q) (fun iv _ => la.length - (intOf iv).toNat)
    case atStart => exact ⟨0, rfl, Nat.zero_le _, rfl, 0, rfl⟩
    case round =>
      obtain ⟨k, rfl, hk, htk, q, rfl⟩ := hrel
      have HT := Lib.hid htk; clear htk
      by_cases hlt : k < la.length
      · have hlt' : k < lb.length := by omega
        obtain ⟨b1, o1, rfl, hc1⟩ := H.out.int k hlt
        obtain ⟨b2, o2, rfl, hc2⟩ := HB.out.int k hlt'
        by_cases he : la[k] = lb[k]
        · have hne : (la[k] != lb[k]) = false := by simpa using he
          have HE := Lib.hid he; clear he
          go_wp2_with fail
          go_quiet (fail)
          go_wp2_with fail
          go_roundw
          case rel => exact ⟨k + 1, by go_num, by omega, by rw [List.take_succ_eq_append_getElem hlt, List.take_succ_eq_append_getElem hlt', HT.out, HE.out], _, rfl⟩
          case measure => simp [intOf]; omega
        · have hne : (la[k] != lb[k]) = true := by simpa using he
          have HE : Hid (r = false) := Lib.hid (by rw [← HR.out]; exact same_no (fun h => he (by subst h; rfl)))
          clear he
          go_wp2_with fail
          go_quiet (fail)
          go_wp2_with fail
          go_ret
          exact ⟨by rw [HE.out]; rfl, _, World.drewN_drewN _ _ _⟩
      · have HE : Hid (r = true) := Lib.hid (by
          have := HT.out
          rw [List.take_of_length_le (by omega), List.take_of_length_le (by omega)] at this
          rw [← HR.out]; exact (same_iff _ _).2 this)
        go_wp2_with fail
        go_ret
        exact ⟨by rw [HE.out]; rfl, q, rfl⟩
  · have hlz : ((la.length : Int) != (lb.length : Int)) = true := by simp; omega
    rw [same_no (fun h => hlen (by rw [h]))]
    go_enter Try.func39, Try.ntmps39
    go_wp2_with fail
    go_ret
    exact ⟨rfl, 0, rfl⟩

set_option maxHeartbeats 2000000 in
set_option maxRecDepth 100000 in
theorem refHas_any (a : Option Addr) (cap : Nat) (l : List Int) (x : Int) (w : World) (h : SlA w a l.length cap (ints l)) :
    Calls Try.prog 63 #[.slice a l.length cap, .int .i64 x] w fun e w' => e = .returned (.bool (has l x)) ∧ w = w' := by
  have hle := h.le
  have hmx := h.max
  have H := Lib.hid h; clear h
  generalize hr : has l x = r
  have HR := Lib.hid hr; clear hr
  go_enter Try.func63, Try.ntmps63
  go_wp2_with fail
  go_loopw [5] (fun iv wr => ∃ k : Nat, iv = .int .i64 k ∧ k ≤ l.length ∧ has (l.take k) x = false ∧ w = wr) (fun iv _ => l.length - (intOf iv).toNat)
  case atStart => exact ⟨0, rfl, Nat.zero_le _, rfl, rfl⟩
  case round =>
    obtain ⟨k, rfl, hk, htk, rfl⟩ := hrel
    have HT := Lib.hid htk; clear htk
    by_cases hlt : k < l.length
    · obtain ⟨b1, o1, rfl, hc1⟩ := H.out.int k hlt
      by_cases he : l[k] = x
      · have hne : (l[k] == x) = true := by simpa using he
        have HE : Hid (r = true) := Lib.hid (by rw [← HR.out, has_iff, ← he]; exact List.getElem_mem hlt)
        clear he
        go_wp2_with fail
        go_ret
        exact ⟨by rw [HE.out]; rfl, rfl⟩
      · have hne : (l[k] == x) = false := by simpa using he
        have HE : Hid (has (l.take (k + 1)) x = false) := Lib.hid (by
          rw [has_no, List.take_succ_eq_append_getElem hlt, List.mem_append]
          rintro (h | h)
          · exact (has_no _ _).1 HT.out h
          · exact he (by simpa [eq_comm] using h))
        clear he
        go_wp2_with fail
        go_roundw
        case rel => exact ⟨k + 1, by go_num, by omega, HE.out, trivial⟩
        case measure => simp [intOf]; omega
    · have HE : Hid (r = false) := Lib.hid (by
        have := HT.out
        rw [List.take_of_length_le (by omega)] at this
        rw [← HR.out]; exact this)
      go_wp2_with fail
      go_ret
      exact ⟨by rw [HE.out]; rfl, rfl⟩
end Go.Proofs.Ytelepohdfcjnfaa
