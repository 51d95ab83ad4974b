/-
  Package message: number, truth, count, text of a reader.
-/
import Derived.Test.YtkclgemkeifbaaaMsgWrite
import Derived.Test.YtkclgemkeifbaaaPackL
import Derived.Test.YtkclgemkeifbaaaRegionY
namespace Go.Proofs.Ytkclgemkeifbaaa
open Go.RowKit Go.Proofs

/-- how a reading call at the reader of block b ends: what the bytes parse as -/
def RdPost {α : Type} (b : Nat) (w : World) (x : PR α) (val : α → Value) (e : Ending) (w' : World) : Prop :=
  Fr (· = b) w w' ∧ match x with
    | .ok a r => e = .returned (val a) ∧ RdL w' b r
    | .ref c => c ≠ 0 ∧ e = .panicked [{ v := refused c, recovered := false }]

set_option maxHeartbeats 1000000 in
theorem rdNum {b : Nat} {w : World} {l : List UInt8} (k : Nat) (h : RdL w b l) (h1 : 1 ≤ k) (h8 : k ≤ 8) (z : Int) (hz : z = k) :
    Calls Try.prog 66 #[.pointer (some ⟨b, 0, none⟩), .int .i64 z] w (RdPost b w (pNum k l) (fun n => .int .u64 n)) := by
  unfold pNum
  by_cases hl : l.length < k
  · rw [if_pos hl]
    refine (readNum_short b k l w h h1 h8 hl z hz).mono ?_
    rintro e w' ⟨rfl, rfl⟩
    exact ⟨Fr.refl _ _, by decide, rfl⟩
  · rw [if_neg hl]
    refine (readNum_ok b k l w h h1 h8 (by omega) z hz).mono ?_
    rintro e w' ⟨rfl, h2, h3⟩
    exact ⟨h3, rfl, h2⟩
theorem pNum_range {k : Nat} {l : List UInt8} {n : Int} {r : List UInt8} (h : pNum k l = .ok n r) : 0 ≤ n ∧ n < 256 ^ k := ((tight_num k).1 _ _ _ h).2
theorem rdRaw {b : Nat} {w : World} {l : List UInt8} (k : Nat) (h : RdL w b l) (hk : k ≤ 9223372036854775807) (z : Int) (hz : z = k) :
    Calls Try.prog 102 #[.pointer (some ⟨b, 0, none⟩), .int .i64 z] w (RdPost b w (pRaw k l) (fun s => .string s)) := by
  unfold pRaw
  by_cases hl : l.length < k
  · rw [if_pos hl]
    refine (readRaw_short b k l w h hl hk z hz).mono ?_
    rintro e w' ⟨rfl, rfl⟩
    exact ⟨Fr.refl _ _, by decide, rfl⟩
  · rw [if_neg hl]
    refine (readRaw_ok b k l w h (by omega) z hz).mono ?_
    rintro e w' ⟨rfl, h2, h3⟩
    exact ⟨h3, rfl, h2⟩

set_option maxHeartbeats 1000000 in
set_option maxRecDepth 100000 in
theorem number_any {b : Nat} {w : World} {l : List UInt8} (h : RdL w b l) : Calls Try.prog 91 #[.pointer (some ⟨b, 0, none⟩)] w (RdPost b w (pNum 2 l) (fun n => .int .i64 n)) := by
  have HC := Lib.hid (rdNum 2 h (by decide) (by decide) 2 rfl)
  cases hp : pNum 2 l with
  | ref c =>
    rw [hp] at HC
    clear hp
    go_enter Try.func91, Try.ntmps91
    go_wp2_with fail
    refine HC.out.mono ?_
    rintro e w' ⟨f, hc, rfl⟩
    have R := Lib.hid (And.intro f hc); clear f hc
    go_wp2_with fail
    exact ⟨rfl, R.out.1, R.out.2, rfl⟩
  | ok n r =>
    obtain ⟨h0, h1⟩ := pNum_range hp
    have h2 : n < 65536 := h1
    rw [hp] at HC
    clear hp h1
    go_enter Try.func91, Try.ntmps91
    go_wp2_with fail
    refine HC.out.mono ?_
    rintro e w' ⟨f, rfl, hr⟩
    have R := Lib.hid (And.intro f hr); clear f hr
    go_wp2_with fail
    go_ret
    exact ⟨R.out.1, rfl, R.out.2⟩

set_option maxHeartbeats 1000000 in
set_option maxRecDepth 100000 in
theorem truth_any {b : Nat} {w : World} {l : List UInt8} (h : RdL w b l) : Calls Try.prog 92 #[.pointer (some ⟨b, 0, none⟩)] w (RdPost b w (pBool l) (fun n => .bool n)) := by
  have HC := Lib.hid (rdNum 1 h (by decide) (by decide) 1 rfl)
  unfold pBool
  cases hp : pNum 1 l with
  | ref c =>
    rw [hp] at HC
    simp only [PR.bind]
    clear hp
    go_enter Try.func92, Try.ntmps92
    go_wp2_with fail
    refine HC.out.mono ?_
    rintro e w' ⟨f, hc, rfl⟩
    have R := Lib.hid (And.intro f hc); clear f hc
    go_wp2_with fail
    exact ⟨rfl, R.out.1, R.out.2, rfl⟩
  | ok n r =>
    obtain ⟨h0, h1⟩ := pNum_range hp
    have h2 : n < 256 := h1
    rw [hp] at HC
    simp only [PR.bind]
    clear hp h1
    by_cases h3 : 1 < n
    · rw [if_pos h3]
      go_enter Try.func92, Try.ntmps92
      go_wp2_with fail
      refine HC.out.mono ?_
      rintro e w' ⟨f, rfl, hr⟩
      have R := Lib.hid f; clear f hr
      go_wp2_with fail
      refine (refuse_any 4 _).mono ?_
      rintro e w2 ⟨rfl, rfl⟩
      go_wp2_with fail
      exact ⟨rfl, R.out, by decide, rfl⟩
    · rw [if_neg h3]
      go_enter Try.func92, Try.ntmps92
      go_wp2_with fail
      refine HC.out.mono ?_
      rintro e w' ⟨f, rfl, hr⟩
      have R := Lib.hid (And.intro f hr); clear f hr
      go_wp2_with fail
      go_ret
      exact ⟨R.out.1, rfl, R.out.2⟩

set_option maxHeartbeats 1000000 in
set_option maxRecDepth 100000 in
theorem count_any {b : Nat} {w : World} {l : List UInt8} (most : Int) (h : RdL w b l) : Calls Try.prog 93 #[.pointer (some ⟨b, 0, none⟩), .int .i64 most] w (RdPost b w (pCount most l) (fun n => .int .i64 n)) := by
  have HC := Lib.hid (rdNum 1 h (by decide) (by decide) 1 rfl)
  unfold pCount
  cases hp : pNum 1 l with
  | ref c =>
    rw [hp] at HC
    simp only [PR.bind]
    clear hp
    go_enter Try.func93, Try.ntmps93
    go_wp2_with fail
    refine HC.out.mono ?_
    rintro e w' ⟨f, hc, rfl⟩
    have R := Lib.hid (And.intro f hc); clear f hc
    go_wp2_with fail
    exact ⟨rfl, R.out.1, R.out.2, rfl⟩
  | ok n r =>
    obtain ⟨h0, h1⟩ := pNum_range hp
    have h2 : n < 256 := h1
    rw [hp] at HC
    simp only [PR.bind]
    clear hp h1
    by_cases h3 : most < n
    · rw [if_pos h3]
      go_enter Try.func93, Try.ntmps93
      go_wp2_with fail
      refine HC.out.mono ?_
      rintro e w' ⟨f, rfl, hr⟩
      have R := Lib.hid f; clear f hr
      go_wp2_with fail
      refine (refuse_any 4 _).mono ?_
      rintro e w2 ⟨rfl, rfl⟩
      go_wp2_with fail
      exact ⟨rfl, R.out, by decide, rfl⟩
    · rw [if_neg h3]
      go_enter Try.func93, Try.ntmps93
      go_wp2_with fail
      refine HC.out.mono ?_
      rintro e w' ⟨f, rfl, hr⟩
      have R := Lib.hid (And.intro f hr); clear f hr
      go_wp2_with fail
      go_ret
      exact ⟨R.out.1, rfl, R.out.2⟩

/-- a length ahead, then so many bytes -/
def pTx (l : List UInt8) : PR ByteArray := (pNum 1 l).bind fun n l => pRaw n.toNat l
theorem pTx_size {l : List UInt8} {s : ByteArray} {r : List UInt8} (h : pTx l = .ok s r) : s.size < 256 := by
  unfold pTx at h
  cases hp : pNum 1 l with
  | ref c => rw [hp] at h; cases h
  | ok n r' =>
    rw [hp] at h
    have := pNum_range hp
    have h2 : n < 256 := this.2
    simp only [PR.bind, pRaw] at h
    split at h
    · cases h
    · cases h
      rw [mk_size, List.length_take]; omega

set_option maxHeartbeats 1000000 in
set_option maxRecDepth 100000 in
theorem rdText_any {b : Nat} {w : World} {l : List UInt8} (h : RdL w b l) : Calls Try.prog 118 #[.pointer (some ⟨b, 0, none⟩)] w (RdPost b w (pTx l) (fun s => .string s)) := by
  have HC := Lib.hid (rdNum 1 h (by decide) (by decide) 1 rfl)
  unfold pTx
  cases hp : pNum 1 l with
  | ref c =>
    rw [hp] at HC
    simp only [PR.bind]
    clear hp
    go_enter Try.func118, Try.ntmps118
    go_wp2_with fail
    refine HC.out.mono ?_
    rintro e w' ⟨f, hc, rfl⟩
    have R := Lib.hid (And.intro f hc); clear f hc
    go_wp2_with fail
    exact ⟨rfl, R.out.1, R.out.2, rfl⟩
  | ok n r =>
    obtain ⟨h0, h1⟩ := pNum_range hp
    have h2 : n < 256 := h1
    rw [hp] at HC
    simp only [PR.bind]
    have HD := Lib.hid (fun w' (h : RdL w' b r) => rdRaw n.toNat h (by omega) n (by omega))
    clear hp h1
    cases hq : pRaw n.toNat r with
    | ref c =>
      rw [hq] at HD
      clear hq
      go_enter Try.func118, Try.ntmps118
      go_wp2_with fail
      refine HC.out.mono ?_
      rintro e w1 ⟨f, rfl, hr⟩
      have R := Lib.hid (And.intro f hr); clear f hr
      go_wp2_with fail
      refine (HD.out _ R.out.2).mono ?_
      rintro e w2 ⟨f2, hc, rfl⟩
      have R2 := Lib.hid (And.intro (R.out.1.trans f2 (fun k h => .inl h)) hc); clear f2 hc
      go_wp2_with fail
      exact ⟨rfl, R2.out.1, R2.out.2, rfl⟩
    | ok s r2 =>
      rw [hq] at HD
      clear hq
      go_enter Try.func118, Try.ntmps118
      go_wp2_with fail
      refine HC.out.mono ?_
      rintro e w1 ⟨f, rfl, hr⟩
      have R := Lib.hid (And.intro f hr); clear f hr
      go_wp2_with fail
      refine (HD.out _ R.out.2).mono ?_
      rintro e w2 ⟨f2, rfl, hr2⟩
      have R2 := Lib.hid (And.intro (R.out.1.trans f2 (fun k h => .inl h)) hr2); clear f2 hr2
      go_wp2_with fail
      go_ret
      exact ⟨R2.out.1, rfl, R2.out.2⟩

set_option maxHeartbeats 1000000 in
set_option maxRecDepth 100000 in
theorem text_any {b : Nat} {w : World} {l : List UInt8} (most : Nat) (h : RdL w b l) : Calls Try.prog 94 #[.pointer (some ⟨b, 0, none⟩), .int .i64 most] w (RdPost b w (pText most l) (fun s => .string s)) := by
  have HC := Lib.hid (rdText_any h)
  have e : pText most l = (pTx l).bind fun s l => if most < s.size then .ref 4 else .ok s l := by
    unfold pText pTx
    cases pNum 1 l <;> rfl
  rw [e]
  clear e
  cases hp : pTx l with
  | ref c =>
    rw [hp] at HC
    simp only [PR.bind]
    clear hp
    go_enter Try.func94, Try.ntmps94
    go_wp2_with fail
    refine HC.out.mono ?_
    rintro e w' ⟨f, hc, rfl⟩
    have R := Lib.hid (And.intro f hc); clear f hc
    go_wp2_with fail
    exact ⟨rfl, R.out.1, R.out.2, rfl⟩
  | ok s r =>
    have h2 := pTx_size hp
    rw [hp] at HC
    simp only [PR.bind]
    clear hp
    by_cases h3 : most < s.size
    · rw [if_pos h3]
      go_enter Try.func94, Try.ntmps94
      go_wp2_with fail
      refine HC.out.mono ?_
      rintro e w' ⟨f, rfl, hr⟩
      have R := Lib.hid f; clear f hr
      go_wp2_with fail
      refine (refuse_any 4 _).mono ?_
      rintro e w2 ⟨rfl, rfl⟩
      go_wp2_with fail
      exact ⟨rfl, R.out, by decide, rfl⟩
    · rw [if_neg h3]
      go_enter Try.func94, Try.ntmps94
      go_wp2_with fail
      refine HC.out.mono ?_
      rintro e w' ⟨f, rfl, hr⟩
      have R := Lib.hid (And.intro f hr); clear f hr
      go_wp2_with fail
      go_ret
      exact ⟨R.out.1, rfl, R.out.2⟩
end Go.Proofs.Ytkclgemkeifbaaa
