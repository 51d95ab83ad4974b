/-
  slices.Index, Contains, IndexFunc, DeleteFunc at []int.
-/
import Derived.Test.YtelepohdfcjnfaaSetLib
namespace Go.Proofs.Ytelepohdfcjnfaa
open Go.RowKit Go.Proofs

def IndexSays (l : List Int) (x : Int) (e : Ending) : Prop := ∃ n : Int, e = .returned (.int .i64 n) ∧ (l.contains x = true → 0 ≤ n) ∧ (l.contains x = false → n = -1)

set_option maxHeartbeats 1000000 in
set_option maxRecDepth 100000 in
theorem index_any (a : Option Addr) (cap : Nat) (l : List Int) (x : Int) (w : World) (h : SlA w a l.length cap (ints l)) :
    Calls Try.prog 95 #[.slice a l.length cap, .int .i64 x] w fun e w' => IndexSays l x e ∧ w = w' := by
  have hle := h.le
  have hmx := h.max
  have H := Lib.hid h; clear h
  go_enter Try.func95, Try.ntmps95
  go_wp2_with fail
  go_loopw [5, 8] (fun jv iv wr => ∃ k : Nat, iv = .int .i64 k ∧ k ≤ l.length ∧ (l.take k).contains x = false ∧ w = wr) (fun _ iv _ => l.length - (intOf iv).toNat)
  case atStart => exact ⟨0, rfl, Nat.zero_le _, rfl, rfl⟩
  case round =>
    obtain ⟨k, rfl, hk, hno, rfl⟩ := hrel
    have HN := Lib.hid hno; clear hno
    by_cases hlt : k < l.length
    · obtain ⟨b, o, rfl, hc⟩ := H.out.int k hlt
      have hts : l.take (k + 1) = l.take k ++ [l[k]] := by rw [List.take_succ_eq_append_getElem hlt]
      by_cases he : x = l[k]
      · have hcon : l.contains x = true := by rw [List.contains_iff_mem, he]; exact List.getElem_mem hlt
        have HC := Lib.hid hcon; clear hcon hts
        have hbeq : (x == l[k]) = true := by simpa using he
        clear he
        go_wp2_with fail
        go_ret
        exact ⟨⟨_, rfl, (fun _ => by omega), (fun h => by rw [HC.out] at h; cases h)⟩, rfl⟩
      · have hno2 : (l.take (k + 1)).contains x = false := by
          rw [hts, Bool.eq_false_iff]
          intro h
          rw [List.contains_iff_mem, List.mem_append] at h
          rcases h with h | h
          · have := HN.out
            rw [Bool.eq_false_iff] at this
            exact this (List.contains_iff_mem.2 h)
          · exact he (by simpa using h)
        have HN2 := Lib.hid hno2; clear hno2 hts
        have hbeq : (x == l[k]) = false := by simpa using he
        clear he
        go_wp2_with fail
        go_roundw
        case rel => exact ⟨k + 1, by go_num, by omega, HN2.out, trivial⟩
        case measure => simp [intOf]; omega
    · have hcon : l.contains x = false := by
        have := HN.out
        rwa [List.take_of_length_le (by omega)] at this
      have HC := Lib.hid hcon; clear hcon
      go_wp2_with fail
      go_ret
      exact ⟨⟨_, rfl, (fun h => by rw [HC.out] at h; cases h), fun _ => rfl⟩, rfl⟩

set_option maxHeartbeats 1000000 in
set_option maxRecDepth 100000 in
theorem contains_any (a : Option Addr) (cap : Nat) (l : List Int) (x : Int) (w : World) (h : SlA w a l.length cap (ints l)) :
    Calls Try.prog 71 #[.slice a l.length cap, .int .i64 x] w fun e w' => e = .returned (.bool (has l x)) ∧ w = w' := by
  have HI := Lib.hid (index_any a cap l x w h); clear h
  unfold has
  generalize hc : l.contains x = c
  have HC := Lib.hid hc; clear hc
  cases c
  · go_enter Try.func71, Try.ntmps71
    go_wp2_with fail
    refine HI.out.mono ?_
    rintro e w' ⟨⟨n, rfl, _, h2⟩, rfl⟩
    obtain rfl := h2 HC.out
    clear h2
    go_wp2_with fail
    go_ret
    exact ⟨rfl, rfl⟩
  · go_enter Try.func71, Try.ntmps71
    go_wp2_with fail
    refine HI.out.mono ?_
    rintro e w' ⟨⟨n, rfl, h1, _⟩, rfl⟩
    have h1' := h1 HC.out
    have hd : decide ((0 : Int) ≤ n) = true := by simpa using h1'
    clear h1
    go_wp2_with fail
    go_ret
    exact ⟨rfl, rfl⟩

/-- a function value that answers p of a number, and makes new memory at most, in every world that parts from w in the blocks of S only -/
def PredI (F : FuncId) (cap : Array Value) (p : Int → Bool) (S : Nat → Prop) (w : World) : Prop :=
  (∀ args w, (callFunc F args).run Try.prog w = .ok (.enter F args) w) ∧
  ∀ (x : Int) (w' : World), Fr S w w' → Calls Try.prog F (#[.int .i64 x] ++ cap) w' fun e w'' => e = .returned (.bool (p x)) ∧ Fr (fun _ => False) w' w''

/-- how many stand ahead of the first one that p takes -/
def ahead (p : Int → Bool) : List Int → Nat
  | [] => 0
  | x :: r => if p x = true then 0 else ahead p r + 1

theorem ahead_at {p : Int → Bool} : ∀ {l : List Int} {k : Nat} (hk : k < l.length), (∀ x ∈ l.take k, p x = false) → p l[k] = true → ahead p l = k
  | x :: r, 0, _, _, h => by simp at h; simp [ahead, h]
  | x :: r, k + 1, hk, hno, h => by
    have h0 := hno x (by simp)
    have ih := ahead_at (l := r) (k := k) (by simpa using hk) (fun y hy => hno y (by simp [hy])) (by simpa using h)
    simp [ahead, h0, ih]
theorem ahead_all {p : Int → Bool} : ∀ {l : List Int}, (∀ x ∈ l, p x = false) → ahead p l = l.length
  | [], _ => rfl
  | x :: r, h => by simp [ahead, h x (by simp), ahead_all (l := r) (fun y hy => h y (by simp [hy]))]
theorem ahead_none {p : Int → Bool} : ∀ {l : List Int}, ¬ ahead p l < l.length → ∀ x ∈ l, p x = false
  | [], _, x, hx => by cases hx
  | y :: r, h, x, hx => by
    cases hp : p y
    · rw [ahead, if_neg (by simp [hp])] at h
      have ih := ahead_none (l := r) (by simp at h ⊢; omega)
      rcases List.mem_cons.1 hx with rfl | hx
      · exact hp
      · exact ih x hx
    · rw [ahead, if_pos hp] at h; simp at h
theorem ahead_some {p : Int → Bool} : ∀ {l : List Int} (h : ahead p l < l.length), (∀ x ∈ l.take (ahead p l), p x = false) ∧ p l[ahead p l] = true
  | [], h => by simp at h
  | y :: r, h => by
    cases hp : p y
    · have e : ahead p (y :: r) = ahead p r + 1 := by rw [ahead, if_neg (by simp [hp])]
      have ih := ahead_some (l := r) (by rw [e] at h; simpa using h)
      simp only [e]
      refine ⟨fun x hx => ?_, by simpa using ih.2⟩
      rw [List.take_succ_cons] at hx
      rcases List.mem_cons.1 hx with rfl | hx
      · exact hp
      · exact ih.1 x hx
    · have e : ahead p (y :: r) = 0 := by rw [ahead, if_pos hp]
      simp only [e]
      exact ⟨by simp, by simpa using hp⟩

def idxF (p : Int → Bool) (l : List Int) : Int := if ahead p l < l.length then (ahead p l : Int) else -1

set_option maxHeartbeats 1000000 in
set_option maxRecDepth 100000 in
theorem indexFunc_any (F : FuncId) (fc : Array Value) (p : Int → Bool) (S : Nat → Prop) (a : Option Addr) (cap : Nat) (l : List Int) (w : World) (h : SlA w a l.length cap (ints l)) (hp : PredI F fc p S w) :
    Calls Try.prog 82 #[.slice a l.length cap, .func (.func F) #[] fc] w fun e w' => e = .returned (.int .i64 (idxF p l)) ∧ Fr (fun _ => False) w w' := by
  obtain ⟨hent, hcl⟩ := hp
  have hle := h.le
  have hmx := h.max
  have H := Lib.hid h; clear h
  have HP := Lib.hid hcl; clear hcl
  go_enter Try.func82, Try.ntmps82
  go_wp2_with fail
  go_loopw [5, 8] (fun jv iv wr => ∃ k : Nat, iv = .int .i64 k ∧ k ≤ l.length ∧ (∀ x ∈ l.take k, p x = false) ∧ Fr (fun _ => False) w wr) (fun _ iv _ => l.length - (intOf iv).toNat)
  case atStart => exact ⟨0, rfl, Nat.zero_le _, by simp, Fr.refl _ _⟩
  case round =>
    obtain ⟨k, rfl, hk, hno, hwr⟩ := hrel
    have HN := Lib.hid hno; clear hno
    have HW := Lib.hid hwr; clear hwr
    by_cases hlt : k < l.length
    · obtain ⟨b, o, rfl, hc⟩ := (H.out.keep HW.out (fun _ _ h => h)).int k hlt
      have hts : l.take (k + 1) = l.take k ++ [l[k]] := by rw [List.take_succ_eq_append_getElem hlt]
      have HTS := Lib.hid hts; clear hts
      have hcall := HP.out l[k] wr (HW.out.mono (fun _ _ h => h.elim))
      have HCALL := Lib.hid hcall; clear hcall
      cases hpk : p l[k]
      · have hno2 : ∀ x ∈ l.take (k + 1), p x = false := by
          intro x hx
          rw [HTS.out, List.mem_append] at hx
          rcases hx with hx | hx
          · exact HN.out x hx
          · have : x = l[k] := by simpa using hx
            rw [this]; exact hpk
        have HN2 := Lib.hid hno2; clear hno2
        rw [hpk] at HCALL
        clear hpk
        go_wp2_with fail
        refine HCALL.out.mono ?_
        rintro e w2 ⟨rfl, hf2⟩
        have HW2 := Lib.hid (HW.out.trans hf2 (fun _ h => h.elim)); clear hf2
        go_wp2_with fail
        go_roundw
        case rel => exact ⟨k + 1, by go_num, by omega, HN2.out, HW2.out⟩
        case measure => simp [intOf]; omega
      · have hah := ahead_at hlt HN.out hpk
        have HAH := Lib.hid hah; clear hah
        rw [hpk] at HCALL
        clear hpk
        go_wp2_with fail
        refine HCALL.out.mono ?_
        rintro e w2 ⟨rfl, hf2⟩
        have HW2 := Lib.hid (HW.out.trans hf2 (fun _ h => h.elim)); clear hf2
        go_wp2_with fail
        go_ret
        exact ⟨by unfold idxF; rw [HAH.out, if_pos hlt]; rfl, HW2.out⟩
    · have hall : ahead p l = l.length := by
        have := HN.out
        rw [List.take_of_length_le (by omega)] at this
        exact ahead_all this
      have HAH := Lib.hid hall; clear hall
      go_wp2_with fail
      go_ret
      exact ⟨by unfold idxF; rw [HAH.out, if_neg (Nat.lt_irrefl _)]; rfl, HW.out⟩
end Go.Proofs.Ytelepohdfcjnfaa
