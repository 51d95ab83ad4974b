/-
  The methods of pack.Writer, and Refuse.
-/
import Derived.Test.YtkclgemkeifbaaaPackW
import Derived.Test.YtkclgemkeifbaaaPackSpec
import Derived.Test.YtkclgemkeifbaaaRegionX
namespace Go.Proofs.Ytkclgemkeifbaaa
open Go.RowKit Go.Proofs

/-- what Refuse panics with -/
def refused (e : Int) : Value := .iface 202 (.agg #[.int .i64 e])

set_option maxHeartbeats 1000000 in
set_option maxRecDepth 100000 in
theorem refuse_any (c : Int) (w : World) : Calls Try.prog 95 #[.int .i64 c] w fun e w' => e = .panicked [{ v := refused (if c = 0 then 4 else c), recovered := false }] ∧ w' = w := by
  by_cases hc : c = 0
  · subst hc
    go_enter Try.func95, Try.ntmps95
    go_wp2
    exact ⟨rfl, rfl, rfl⟩
  · go_enter Try.func95, Try.ntmps95
    go_wp2
    exact ⟨rfl, rfl, rfl⟩

set_option maxHeartbeats 1000000 in
set_option maxRecDepth 100000 in
theorem writerRaw_any (B : Nat) (S : Nat → Prop) (w : World) (b : Nat) (p v : Value) (bs : List Value) (s : ByteArray) (h : WrAt B S w b p v bs) (hlen : bs.length + s.size ≤ 140737488355328) :
    Calls Try.prog 60 #[.pointer (some ⟨b, 0, none⟩), .string s] w fun e w' => e = .returned (.tuple #[]) ∧ (∃ v', WrAt B S w' b (.pointer (some ⟨b, 0, none⟩)) v' (bs ++ Lib.strCells s)) ∧ Fr S w w' := by
  have H := Lib.hid h; clear h
  go_enter Try.func60, Try.ntmps60
  go_wp2_with fail
  refine (writeString_any B S w b p v bs s H.out hlen).mono ?_
  rintro e w1 ⟨rfl, h1, hf1⟩
  go_wp2
  go_end0
  exact ⟨rfl, h1, hf1⟩

theorem writerNum_bad (b : Addr) (n : Int) (size : Int) (w : World) (hn0 : 0 ≤ n) (hn : n < 18446744073709551616) (hs0 : -9223372036854775808 ≤ size) (hs1 : size ≤ 9223372036854775807) (hbad : ¬ NumOk n.toNat size) :
    Calls Try.prog 59 #[.pointer (some b), .int .u64 n, .int .i64 size] w fun e w' => e = .panicked [{ v := refused 11, recovered := false }] ∧ w' = w := by
  by_cases h1 : size < 1
  · clear hbad
    go_enter Try.func59, Try.ntmps59
    go_wp2_with fail
    refine (refuse_any 11 w).mono ?_
    rintro e w' ⟨rfl, rfl⟩
    go_wp2
    exact ⟨rfl, rfl, rfl⟩
  by_cases h2 : 8 < size
  · clear hbad
    go_enter Try.func59, Try.ntmps59
    go_wp2_with fail
    refine (refuse_any 11 w).mono ?_
    rintro e w' ⟨rfl, rfl⟩
    go_wp2
    exact ⟨rfl, rfl, rfl⟩
  by_cases h3 : size = 8
  · subst h3
    exact absurd ⟨by omega, by omega, by simp; omega⟩ hbad
  have hq : ¬ n / 2 ^ (8 * size).toNat = 0 := by
    intro hq
    refine hbad ⟨by omega, by omega, ?_⟩
    obtain ⟨m, rfl⟩ : ∃ m : Nat, n = m := ⟨n.toNat, by omega⟩
    obtain ⟨s, rfl⟩ : ∃ s : Nat, size = s := ⟨size.toNat, by omega⟩
    have := pow_fits m s
    simp only [Int.toNat_natCast] at this ⊢
    exact (this.1 hq)
  clear hbad
  go_enter Try.func59, Try.ntmps59
  go_wp2_with fail
  refine (refuse_any 11 w).mono ?_
  rintro e w' ⟨rfl, rfl⟩
  go_wp2
  exact ⟨rfl, rfl, rfl⟩

set_option maxHeartbeats 1000000 in
set_option maxRecDepth 100000 in
theorem writerNum_8 (B : Nat) (S : Nat → Prop) (w : World) (b : Nat) (p v : Value) (bs : List Value) (n : Int) (h : WrAt B S w b p v bs) (hn0 : 0 ≤ n) (hn : n < 18446744073709551616) (hlen : bs.length + 8 ≤ 140737488355328) :
    Calls Try.prog 59 #[.pointer (some ⟨b, 0, none⟩), .int .u64 n, .int .i64 8] w fun e w' => e = .returned (.tuple #[]) ∧ (∃ p' v', WrAt B S w' b p' v' (bs ++ Lib.byteCells (bigEnd (8 : Int).toNat n.toNat))) ∧ Fr S w w' := by
  have H := Lib.hid h; clear h
  go_enter Try.func59, Try.ntmps59
  go_wp2_with fail
  go_loopw [6] (fun kv wr => ∃ (k : Int) (j : Nat) (p' v' : Value) (bs' : List Value), kv = .int .i64 k ∧ k + 1 = j ∧ (j : Int) ≤ 8 ∧ bs'.length + (j : Int) = bs.length + 8 ∧ WrAt B S wr b p' v' bs' ∧ bs' ++ (bigEnd j n.toNat).map (fun b => Value.int .u8 b.toNat) = bs ++ Lib.byteCells (bigEnd (8 : Int).toNat n.toNat) ∧ Fr S w wr) (fun kv _ => (intOf kv + 1).toNat)
  case atStart => exact ⟨_, (8 : Int).toNat, p, v, bs, rfl, by omega, by omega, by omega, H.out, rfl, Fr.refl S w⟩
  case round =>
    obtain ⟨k, j, p', v', bs', rfl, hk, hj, hln, hw, hbs, hfr⟩ := hrel
    have HB := Lib.hid hbs; clear hbs
    have HW := Lib.hid hw; clear hw
    cases j with
    | zero =>
      obtain rfl : k = -1 := by omega
      go_wp2_with fail
      go_end0
      exact ⟨rfl, ⟨p', v', by rw [← HB.out]; simpa [bigEnd] using HW.out⟩, hfr⟩
    | succ j =>
      obtain rfl : k = j := by omega
      have h8 : (8 * (j : Int)).toNat = 8 * j := by omega
      obtain ⟨m, rfl⟩ : ∃ m : Nat, n = m := ⟨n.toNat, by omega⟩
      have hby := byte_of m j
      have HBY := Lib.hid hby; clear hby
      go_wp2_with fail
      refine wp_region_text [8] [] (fun w' => ∃ z : WC (fun _ => True), w' = z.val) (by kernel_rfl) (by kernel_rfl) (fun c a w d v h => by cases d <;> exact h) (fun c a w d v h => by cases d <;> exact h) ⟨⟨_, trivial⟩, rfl⟩ ?_
      repeat (refine wpU_q (by rfl) (by rfl) ?_; go_big_quiet_step (fail); refine wpQuiet_nil ?_)
      refine wpU_e (by rfl) ?_
      go_wp2_with fail
      rw [← HBY.out]
      refine (writeByte_any B S _ b p' v' bs' _ HW.out.drew (by omega)).mono ?_
      rintro e w2 ⟨rfl, ⟨v2, hw2⟩, hf2⟩
      go_wp2_with fail
      refine ⟨⟨⟨_, trivial⟩, rfl⟩, ?_⟩
      refine wpU_nil ?_
      go_wp2_with fail
      go_roundw
      case rel => exact ⟨_, j, _, v2, _, rfl, by omega, by omega, by simp; omega, hw2, bytes_join _ _ _ _ HB.out, hfr.drew.trans hf2 (fun k hk => .inl hk)⟩
      case measure => simp [intOf]

set_option maxHeartbeats 1000000 in
set_option maxRecDepth 100000 in
theorem writerNum_lt (B : Nat) (S : Nat → Prop) (w : World) (b : Nat) (p v : Value) (bs : List Value) (n : Int) (size : Int) (h : WrAt B S w b p v bs) (hn0 : 0 ≤ n) (hn : n < 18446744073709551616) (hlen : bs.length + 8 ≤ 140737488355328) (h1 : 1 ≤ size) (h2 : size < 8) (h3 : n / 2 ^ (8 * size).toNat = 0) :
    Calls Try.prog 59 #[.pointer (some ⟨b, 0, none⟩), .int .u64 n, .int .i64 size] w fun e w' => e = .returned (.tuple #[]) ∧ (∃ p' v', WrAt B S w' b p' v' (bs ++ Lib.byteCells (bigEnd (size : Int).toNat n.toNat))) ∧ Fr S w w' := by
  have H := Lib.hid h; clear h
  have h1' : ¬ size < 1 := by omega
  have h2' : ¬ 8 < size := by omega
  go_enter Try.func59, Try.ntmps59
  go_wp2_with fail
  go_loopw [6] (fun kv wr => ∃ (k : Int) (j : Nat) (p' v' : Value) (bs' : List Value), kv = .int .i64 k ∧ k + 1 = j ∧ (j : Int) ≤ size ∧ bs'.length + (j : Int) = bs.length + size ∧ WrAt B S wr b p' v' bs' ∧ bs' ++ (bigEnd j n.toNat).map (fun b => Value.int .u8 b.toNat) = bs ++ Lib.byteCells (bigEnd (size : Int).toNat n.toNat) ∧ Fr S w wr) (fun kv _ => (intOf kv + 1).toNat)
  case atStart => exact ⟨_, (size : Int).toNat, p, v, bs, rfl, by omega, by omega, by omega, H.out, rfl, Fr.refl S w⟩
  case round =>
    obtain ⟨k, j, p', v', bs', rfl, hk, hj, hln, hw, hbs, hfr⟩ := hrel
    have HB := Lib.hid hbs; clear hbs
    have HW := Lib.hid hw; clear hw
    cases j with
    | zero =>
      obtain rfl : k = -1 := by omega
      go_wp2_with fail
      go_end0
      exact ⟨rfl, ⟨p', v', by rw [← HB.out]; simpa [bigEnd] using HW.out⟩, hfr⟩
    | succ j =>
      obtain rfl : k = j := by omega
      have h8 : (8 * (j : Int)).toNat = 8 * j := by omega
      obtain ⟨m, rfl⟩ : ∃ m : Nat, n = m := ⟨n.toNat, by omega⟩
      have hby := byte_of m j
      have HBY := Lib.hid hby; clear hby
      go_wp2_with fail
      refine wp_region_text [8] [] (fun w' => ∃ z : WC (fun _ => True), w' = z.val) (by kernel_rfl) (by kernel_rfl) (fun c a w d v h => by cases d <;> exact h) (fun c a w d v h => by cases d <;> exact h) ⟨⟨_, trivial⟩, rfl⟩ ?_
      repeat (refine wpU_q (by rfl) (by rfl) ?_; go_big_quiet_step (fail); refine wpQuiet_nil ?_)
      refine wpU_e (by rfl) ?_
      go_wp2_with fail
      rw [← HBY.out]
      refine (writeByte_any B S _ b p' v' bs' _ HW.out.drew (by omega)).mono ?_
      rintro e w2 ⟨rfl, ⟨v2, hw2⟩, hf2⟩
      go_wp2_with fail
      refine ⟨⟨⟨_, trivial⟩, rfl⟩, ?_⟩
      refine wpU_nil ?_
      go_wp2_with fail
      go_roundw
      case rel => exact ⟨_, j, _, v2, _, rfl, by omega, by omega, by simp; omega, hw2, bytes_join _ _ _ _ HB.out, hfr.drew.trans hf2 (fun k hk => .inl hk)⟩
      case measure => simp [intOf]

/-- Num of a number that fits -/
theorem writerNum_any (B : Nat) (S : Nat → Prop) (w : World) (b : Nat) (p v : Value) (bs : List Value) (n : Int) (size : Int) (h : WrAt B S w b p v bs) (hn0 : 0 ≤ n) (hn : n < 18446744073709551616) (hlen : bs.length + 8 ≤ 140737488355328) (hok : NumOk n.toNat size) :
    Calls Try.prog 59 #[.pointer (some ⟨b, 0, none⟩), .int .u64 n, .int .i64 size] w fun e w' => e = .returned (.tuple #[]) ∧ (∃ p' v', WrAt B S w' b p' v' (bs ++ Lib.byteCells (bigEnd size.toNat n.toNat))) ∧ Fr S w w' := by
  obtain ⟨h1, h2, h3⟩ := hok
  by_cases h4 : size = 8
  · subst h4
    exact writerNum_8 B S w b p v bs n h hn0 hn hlen
  · obtain ⟨m, rfl⟩ : ∃ m : Nat, n = m := ⟨n.toNat, by omega⟩
    obtain ⟨s, rfl⟩ : ∃ s : Nat, size = s := ⟨size.toNat, by omega⟩
    exact writerNum_lt B S w b p v bs m s h hn0 hn hlen h1 (by omega) ((pow_fits m s).2 (by simpa using h3))

end Go.Proofs.Ytkclgemkeifbaaa
