/-
  slices.IndexFunc, ContainsFunc and Equal at []int, []message.Id, []message.Rec.
-/
import Derived.Test.YtkclgemkeifbaaaMsgSpec
import Derived.Test.YtkclgemkeifbaaaGr
import Derived.Laws.StructEq
namespace Go.Proofs.Ytkclgemkeifbaaa
open Go.RowKit Go.Proofs


abbrev MId.cells (x : MId) : List Value := [.string x.key, .int .u64 x.ver]
abbrev MRec.cells (x : MRec) : List Value := [.string x.key, .int .u64 x.ver, .int .i64 x.origin, .int .i64 x.age, .bool x.gone, .string x.data]
abbrev MInt.cells (x : Int) : List Value := [.int .i64 x]
abbrev MId.val (x : MId) : Value := .agg #[.string x.key, .int .u64 x.ver]
abbrev MRec.val (x : MRec) : Value := .agg #[.string x.key, .int .u64 x.ver, .int .i64 x.origin, .int .i64 x.age, .bool x.gone, .string x.data]
abbrev MInt.val (x : Int) : Value := .int .i64 x

def AnySays (b : Bool) (e : Ending) : Prop := ∃ n : Int, e = .returned (.int .i64 n) ∧ (b = true → 0 ≤ n) ∧ (b = false → n = -1)
/-- a function that answers p of an element, and makes new memory at most -/
structure PredF (F : FuncId) {α : Type} (val : α → Value) (p : α → Bool) : Prop where
  ent : ∀ args w, (callFunc F args).run Try.prog w = .ok (.enter F args) w
  says : ∀ (x : α) (w : World), Calls Try.prog F #[val x] w fun e w' => e = .returned (.bool (p x)) ∧ Gr w w'


set_option maxHeartbeats 1000000 in
set_option maxRecDepth 100000 in
theorem indexFn_int (F : FuncId) (p : Int → Bool) (hp : PredF F MInt.val p) (a : Option Addr) (cap : Nat) (l : List Int) (w : World) (h : SlA w a l.length cap (l.flatMap MInt.cells)) :
    Calls Try.prog 114 #[.slice a l.length cap, .func (.func F) #[] #[]] w fun e w' => AnySays (l.any p) e ∧ Gr w w' := by
  obtain ⟨hent, hcl⟩ := hp
  have hle := h.le
  have hmx := h.max
  have H := Lib.hid h; clear h
  have HP := Lib.hid hcl; clear hcl
  go_enter Try.func114, Try.ntmps114
  go_wp2_with fail
  go_loopw [5, 8] (fun jv iv wr => ∃ k : Nat, iv = .int .i64 k ∧ k ≤ l.length ∧ (l.take k).any p = false ∧ Gr w wr) (fun _ iv _ => l.length - (intOf iv).toNat)
  case atStart => exact ⟨0, rfl, Nat.zero_le _, rfl, Fr.refl _ _⟩
  case round =>
    obtain ⟨k, rfl, hk, hno, hwr⟩ := hrel
    have HN := Lib.hid hno; clear hno
    have HW := Lib.hid hwr; clear hwr
    by_cases hlt : k < l.length
    · obtain ⟨b, o, rfl, hc⟩ := (H.out.keep HW.out (fun _ _ h => h)).elem (f := MInt.cells) (n := 1) (fun _ => rfl) (by decide) k hlt
      have hc0 : wr.cell? ⟨b, o + k, none⟩ = some (.int .i64 l[k]) := by have := hc 0 _ rfl; simpa using this
      have HTS := Lib.hid (show l.take (k + 1) = l.take k ++ [l[k]] by rw [List.take_succ_eq_append_getElem hlt])
      have HCALL := Lib.hid (HP.out l[k] wr)
      clear hc
      cases hpk : p l[k]
      · have HN2 : Hid ((l.take (k + 1)).any p = false) := Lib.hid (by rw [HTS.out, List.any_append, HN.out]; simp [hpk])
        rw [hpk] at HCALL
        clear hpk
        generalize l[k] = x at *
        go_wp2_with fail
        refine HCALL.out.mono ?_
        rintro e w2 ⟨rfl, hf2⟩
        have HW2 := Lib.hid (Gr.trans HW.out hf2); clear hf2
        go_wp2_with fail
        go_roundw
        case rel => exact ⟨k + 1, by go_num, by omega, HN2.out, HW2.out⟩
        case measure => simp [intOf]; omega
      · have HA : Hid (l.any p = true) := Lib.hid (List.any_eq_true.2 ⟨l[k], List.getElem_mem hlt, hpk⟩)
        rw [hpk] at HCALL
        clear hpk
        generalize l[k] = x at *
        go_wp2_with fail
        refine HCALL.out.mono ?_
        rintro e w2 ⟨rfl, hf2⟩
        have HW2 := Lib.hid (Gr.trans HW.out hf2); clear hf2
        go_wp2_with fail
        go_ret
        exact ⟨⟨_, rfl, fun _ => by omega, fun h => by rw [HA.out] at h; cases h⟩, HW2.out⟩
    · have HA : Hid (l.any p = false) := Lib.hid (by have := HN.out; rwa [List.take_of_length_le (by omega)] at this)
      go_wp2_with fail
      go_ret
      exact ⟨⟨_, rfl, fun h => by (rw [HA.out] at h; cases h), fun _ => rfl⟩, HW.out⟩

set_option maxHeartbeats 1000000 in
set_option maxRecDepth 100000 in
theorem containsFn_int (F : FuncId) (p : Int → Bool) (hp : PredF F MInt.val p) (a : Option Addr) (cap : Nat) (l : List Int) (w : World) (h : SlA w a l.length cap (l.flatMap MInt.cells)) :
    Calls Try.prog 77 #[.slice a l.length cap, .func (.func F) #[] #[]] w fun e w' => e = .returned (.bool (l.any p)) ∧ Gr w w' := by
  have HI := Lib.hid (indexFn_int F p hp a cap l w h); clear h hp
  generalize hc : l.any p = c at *
  clear hc
  cases c
  · go_enter Try.func77, Try.ntmps77
    go_wp2_with fail
    refine HI.out.mono ?_
    rintro e w' ⟨⟨n, rfl, _, h2⟩, hf⟩
    obtain rfl := h2 rfl
    have HF := Lib.hid hf
    clear h2 hf
    go_wp2_with fail
    go_ret
    exact ⟨rfl, HF.out⟩
  · go_enter Try.func77, Try.ntmps77
    go_wp2_with fail
    refine HI.out.mono ?_
    rintro e w' ⟨⟨n, rfl, h1, _⟩, hf⟩
    have h1' := h1 rfl
    have hd : decide ((0 : Int) ≤ n) = true := by simpa using h1'
    have HF := Lib.hid hf
    clear h1 hf
    go_wp2_with fail
    go_ret
    exact ⟨rfl, HF.out⟩

set_option maxHeartbeats 1000000 in
set_option maxRecDepth 100000 in
theorem indexFn_id (F : FuncId) (p : MId → Bool) (hp : PredF F MId.val p) (a : Option Addr) (cap : Nat) (l : List MId) (w : World) (h : SlA w a l.length cap (l.flatMap MId.cells)) :
    Calls Try.prog 115 #[.slice a l.length cap, .func (.func F) #[] #[]] w fun e w' => AnySays (l.any p) e ∧ Gr w w' := by
  obtain ⟨hent, hcl⟩ := hp
  have hle := h.le
  have hmx := h.max
  have H := Lib.hid h; clear h
  have HP := Lib.hid hcl; clear hcl
  go_enter Try.func115, Try.ntmps115
  go_wp2_with fail
  go_loopw [5, 8] (fun jv iv wr => ∃ k : Nat, iv = .int .i64 k ∧ k ≤ l.length ∧ (l.take k).any p = false ∧ Gr w wr) (fun _ iv _ => l.length - (intOf iv).toNat)
  case atStart => exact ⟨0, rfl, Nat.zero_le _, rfl, Fr.refl _ _⟩
  case round =>
    obtain ⟨k, rfl, hk, hno, hwr⟩ := hrel
    have HN := Lib.hid hno; clear hno
    have HW := Lib.hid hwr; clear hwr
    by_cases hlt : k < l.length
    · obtain ⟨b, o, rfl, hc⟩ := (H.out.keep HW.out (fun _ _ h => h)).elem (f := MId.cells) (n := 2) (fun _ => rfl) (by decide) k hlt
      have hc0 := hc 0 _ rfl
      have hc1 := hc 1 _ rfl
      simp only [Nat.add_zero] at hc0
      have HTS := Lib.hid (show l.take (k + 1) = l.take k ++ [l[k]] by rw [List.take_succ_eq_append_getElem hlt])
      have HCALL := Lib.hid (HP.out l[k] wr)
      clear hc
      cases hpk : p l[k]
      · have HN2 : Hid ((l.take (k + 1)).any p = false) := Lib.hid (by rw [HTS.out, List.any_append, HN.out]; simp [hpk])
        rw [hpk] at HCALL
        clear hpk
        generalize l[k] = x at *
        go_wp2_with fail
        refine HCALL.out.mono ?_
        rintro e w2 ⟨rfl, hf2⟩
        have HW2 := Lib.hid (Gr.trans HW.out hf2); clear hf2
        go_wp2_with fail
        go_roundw
        case rel => exact ⟨k + 1, by go_num, by omega, HN2.out, HW2.out⟩
        case measure => simp [intOf]; omega
      · have HA : Hid (l.any p = true) := Lib.hid (List.any_eq_true.2 ⟨l[k], List.getElem_mem hlt, hpk⟩)
        rw [hpk] at HCALL
        clear hpk
        generalize l[k] = x at *
        go_wp2_with fail
        refine HCALL.out.mono ?_
        rintro e w2 ⟨rfl, hf2⟩
        have HW2 := Lib.hid (Gr.trans HW.out hf2); clear hf2
        go_wp2_with fail
        go_ret
        exact ⟨⟨_, rfl, fun _ => by omega, fun h => by rw [HA.out] at h; cases h⟩, HW2.out⟩
    · have HA : Hid (l.any p = false) := Lib.hid (by have := HN.out; rwa [List.take_of_length_le (by omega)] at this)
      go_wp2_with fail
      go_ret
      exact ⟨⟨_, rfl, fun h => by (rw [HA.out] at h; cases h), fun _ => rfl⟩, HW.out⟩

set_option maxHeartbeats 1000000 in
set_option maxRecDepth 100000 in
theorem containsFn_id (F : FuncId) (p : MId → Bool) (hp : PredF F MId.val p) (a : Option Addr) (cap : Nat) (l : List MId) (w : World) (h : SlA w a l.length cap (l.flatMap MId.cells)) :
    Calls Try.prog 79 #[.slice a l.length cap, .func (.func F) #[] #[]] w fun e w' => e = .returned (.bool (l.any p)) ∧ Gr w w' := by
  have HI := Lib.hid (indexFn_id F p hp a cap l w h); clear h hp
  generalize hc : l.any p = c at *
  clear hc
  cases c
  · go_enter Try.func79, Try.ntmps79
    go_wp2_with fail
    refine HI.out.mono ?_
    rintro e w' ⟨⟨n, rfl, _, h2⟩, hf⟩
    obtain rfl := h2 rfl
    have HF := Lib.hid hf
    clear h2 hf
    go_wp2_with fail
    go_ret
    exact ⟨rfl, HF.out⟩
  · go_enter Try.func79, Try.ntmps79
    go_wp2_with fail
    refine HI.out.mono ?_
    rintro e w' ⟨⟨n, rfl, h1, _⟩, hf⟩
    have h1' := h1 rfl
    have hd : decide ((0 : Int) ≤ n) = true := by simpa using h1'
    have HF := Lib.hid hf
    clear h1 hf
    go_wp2_with fail
    go_ret
    exact ⟨rfl, HF.out⟩

set_option maxHeartbeats 1000000 in
set_option maxRecDepth 100000 in
theorem indexFn_rec (F : FuncId) (p : MRec → Bool) (hp : PredF F MRec.val p) (a : Option Addr) (cap : Nat) (l : List MRec) (w : World) (h : SlA w a l.length cap (l.flatMap MRec.cells)) :
    Calls Try.prog 116 #[.slice a l.length cap, .func (.func F) #[] #[]] w fun e w' => AnySays (l.any p) e ∧ Gr w w' := by
  obtain ⟨hent, hcl⟩ := hp
  have hle := h.le
  have hmx := h.max
  have H := Lib.hid h; clear h
  have HP := Lib.hid hcl; clear hcl
  go_enter Try.func116, Try.ntmps116
  go_wp2_with fail
  go_loopw [5, 8] (fun jv iv wr => ∃ k : Nat, iv = .int .i64 k ∧ k ≤ l.length ∧ (l.take k).any p = false ∧ Gr w wr) (fun _ iv _ => l.length - (intOf iv).toNat)
  case atStart => exact ⟨0, rfl, Nat.zero_le _, rfl, Fr.refl _ _⟩
  case round =>
    obtain ⟨k, rfl, hk, hno, hwr⟩ := hrel
    have HN := Lib.hid hno; clear hno
    have HW := Lib.hid hwr; clear hwr
    by_cases hlt : k < l.length
    · obtain ⟨b, o, rfl, hc⟩ := (H.out.keep HW.out (fun _ _ h => h)).elem (f := MRec.cells) (n := 6) (fun _ => rfl) (by decide) k hlt
      have hc0 := hc 0 _ rfl
      have hc1 := hc 1 _ rfl
      have hc2 := hc 2 _ rfl
      have hc3 := hc 3 _ rfl
      have hc4 := hc 4 _ rfl
      have hc5 := hc 5 _ rfl
      simp only [Nat.add_zero] at hc0
      have HTS := Lib.hid (show l.take (k + 1) = l.take k ++ [l[k]] by rw [List.take_succ_eq_append_getElem hlt])
      have HCALL := Lib.hid (HP.out l[k] wr)
      clear hc
      cases hpk : p l[k]
      · have HN2 : Hid ((l.take (k + 1)).any p = false) := Lib.hid (by rw [HTS.out, List.any_append, HN.out]; simp [hpk])
        rw [hpk] at HCALL
        clear hpk
        generalize l[k] = x at *
        go_wp2_with fail
        refine HCALL.out.mono ?_
        rintro e w2 ⟨rfl, hf2⟩
        have HW2 := Lib.hid (Gr.trans HW.out hf2); clear hf2
        go_wp2_with fail
        go_roundw
        case rel => exact ⟨k + 1, by go_num, by omega, HN2.out, HW2.out⟩
        case measure => simp [intOf]; omega
      · have HA : Hid (l.any p = true) := Lib.hid (List.any_eq_true.2 ⟨l[k], List.getElem_mem hlt, hpk⟩)
        rw [hpk] at HCALL
        clear hpk
        generalize l[k] = x at *
        go_wp2_with fail
        refine HCALL.out.mono ?_
        rintro e w2 ⟨rfl, hf2⟩
        have HW2 := Lib.hid (Gr.trans HW.out hf2); clear hf2
        go_wp2_with fail
        go_ret
        exact ⟨⟨_, rfl, fun _ => by omega, fun h => by rw [HA.out] at h; cases h⟩, HW2.out⟩
    · have HA : Hid (l.any p = false) := Lib.hid (by have := HN.out; rwa [List.take_of_length_le (by omega)] at this)
      go_wp2_with fail
      go_ret
      exact ⟨⟨_, rfl, fun h => by (rw [HA.out] at h; cases h), fun _ => rfl⟩, HW.out⟩

set_option maxHeartbeats 1000000 in
set_option maxRecDepth 100000 in
theorem containsFn_rec (F : FuncId) (p : MRec → Bool) (hp : PredF F MRec.val p) (a : Option Addr) (cap : Nat) (l : List MRec) (w : World) (h : SlA w a l.length cap (l.flatMap MRec.cells)) :
    Calls Try.prog 81 #[.slice a l.length cap, .func (.func F) #[] #[]] w fun e w' => e = .returned (.bool (l.any p)) ∧ Gr w w' := by
  have HI := Lib.hid (indexFn_rec F p hp a cap l w h); clear h hp
  generalize hc : l.any p = c at *
  clear hc
  cases c
  · go_enter Try.func81, Try.ntmps81
    go_wp2_with fail
    refine HI.out.mono ?_
    rintro e w' ⟨⟨n, rfl, _, h2⟩, hf⟩
    obtain rfl := h2 rfl
    have HF := Lib.hid hf
    clear h2 hf
    go_wp2_with fail
    go_ret
    exact ⟨rfl, HF.out⟩
  · go_enter Try.func81, Try.ntmps81
    go_wp2_with fail
    refine HI.out.mono ?_
    rintro e w' ⟨⟨n, rfl, h1, _⟩, hf⟩
    have h1' := h1 rfl
    have hd : decide ((0 : Int) ≤ n) = true := by simpa using h1'
    have HF := Lib.hid hf
    clear h1 hf
    go_wp2_with fail
    go_ret
    exact ⟨rfl, HF.out⟩
end Go.Proofs.Ytkclgemkeifbaaa
