/-
  Package head: a head's bytes and back.
-/
import Derived.Test.YtkclgemkeifbaaaPackKeep
namespace Go.Proofs.Ytkclgemkeifbaaa
open Go.RowKit Go.Proofs

structure Hd where
  id : Int
  resp : Bool
  op : Int
  auth : Bool
  trunc : Bool
  des : Bool
  avail : Bool
  zero : Int
  code : Int
  c0 : Int
  c1 : Int
  c2 : Int
  c3 : Int

def Hd.val (h : Hd) : Value := .agg #[.int .u16 h.id, .bool h.resp, .int .u8 h.op, .bool h.auth, .bool h.trunc, .bool h.des, .bool h.avail, .int .u8 h.zero, .int .u8 h.code, .int .u16 h.c0, .int .u16 h.c1, .int .u16 h.c2, .int .u16 h.c3]
structure Hd.Fits (h : Hd) : Prop where
  id : 0 ≤ h.id ∧ h.id ≤ 65535
  op : 0 ≤ h.op ∧ h.op ≤ 255
  zero : 0 ≤ h.zero ∧ h.zero ≤ 255
  code : 0 ≤ h.code ∧ h.code ≤ 255
  c0 : 0 ≤ h.c0 ∧ h.c0 ≤ 65535
  c1 : 0 ≤ h.c1 ∧ h.c1 ≤ 65535
  c2 : 0 ≤ h.c2 ∧ h.c2 ≤ 65535
  c3 : 0 ≤ h.c3 ∧ h.c3 ≤ 65535

def bitI (b : Bool) (n : Int) : Int := if b then n else 0
theorem bitI_range (b : Bool) (n : Int) (h : 0 ≤ n) : 0 ≤ bitI b n ∧ bitI b n ≤ n := by cases b <;> simp [bitI, h]
/-- the flags of a head but the last four bits, so many of them -/
def Hd.fl (h : Hd) (k : Nat) : Int :=
  2048 * h.op + 16 * h.zero + h.code + bitI h.resp 32768 + (if 1 ≤ k then bitI h.avail 128 else 0) + (if 2 ≤ k then bitI h.des 256 else 0) + (if 3 ≤ k then bitI h.trunc 512 else 0) + (if 4 ≤ k then bitI h.auth 1024 else 0)
def Hd.flags (h : Hd) : Int := h.fl 4

theorem or_pow (n k : Nat) (h : n / 2 ^ k % 2 = 0) : n ||| 2 ^ k = n + 2 ^ k := by
  have hd : n % 2 ^ k + 2 ^ k * (n / 2 ^ k) = n := Nat.mod_add_div n (2 ^ k)
  obtain ⟨q, hq⟩ : ∃ q, n / 2 ^ k = 2 * q := ⟨n / 2 ^ k / 2, by omega⟩
  have hm : n % 2 ^ k < 2 ^ k := Nat.mod_lt _ (Nat.two_pow_pos k)
  generalize n % 2 ^ k = r at *
  have e1 : n = 2 ^ (k + 1) * q + r := by rw [← hd, hq, Nat.pow_succ, Nat.mul_assoc]; omega
  have e2 : r + 2 ^ k < 2 ^ (k + 1) := by rw [Nat.pow_succ]; omega
  rw [e1, Nat.add_assoc, Nat.two_pow_add_eq_or_of_lt (show r < 2 ^ (k + 1) by omega) q, Nat.two_pow_add_eq_or_of_lt e2 q, Nat.or_assoc]
  congr 1
  rw [Nat.add_comm, ← Nat.mul_one (2 ^ k), Nat.two_pow_add_eq_or_of_lt hm, Nat.or_comm]

theorem u64_or_pow (x : Int) (k : Nat) (hx0 : 0 ≤ x) (hx : x < 65536) (hk : k < 16) (h : x / 2 ^ k % 2 = 0) : bits .or .u64 x (2 ^ k) = x + 2 ^ k := by
  obtain ⟨n, rfl⟩ := Int.eq_ofNat_of_zero_le hx0
  have hp : (2 : Nat) ^ k ≤ 2 ^ 15 := Nat.pow_le_pow_right (by decide) (by omega)
  have e : (2 : Int) ^ k = ((2 ^ k : Nat) : Int) := by simp
  rw [e, (bits_nat .u64 63 (by decide) (fun n h0 h1 => by rw [IntKind.wrap_u64]; omega) n (2 ^ k) (by omega) (by omega)).2, or_pow n k]
  · rw [Int.natCast_add]
  · rw [e, ← Int.natCast_ediv] at h
    exact_mod_cast h

theorem fl_range (h : Hd) (hf : h.Fits) (ho : h.op ≤ 15) (hz : h.zero ≤ 7) (hc : h.code ≤ 15) (k : Nat) : 0 ≤ h.fl k ∧ h.fl k < 65536 := by
  have a0 := hf.op.1
  have a1 := hf.zero.1
  have a2 := hf.code.1
  have b0 := bitI_range h.resp 32768 (by decide)
  have b1 := bitI_range h.avail 128 (by decide)
  have b2 := bitI_range h.des 256 (by decide)
  have b3 := bitI_range h.trunc 512 (by decide)
  have b4 := bitI_range h.auth 1024 (by decide)
  unfold Hd.fl
  constructor
  · repeat (first | omega | split)
  · split <;> split <;> split <;> split <;> omega

theorem fl_0 (h : Hd) (hf : h.Fits) (ho : h.op ≤ 15) (hz : h.zero ≤ 7) (hc : h.code ≤ 15) (hb : h.avail = true) : bits .or .u64 (h.fl 0) 128 = h.fl 1 := by
  have hr := fl_range h hf ho hz hc 0
  have a0 := hf.op.1
  have a1 := hf.zero.1
  have a2 := hf.code.1
  rw [show (128 : Int) = 2 ^ 7 by decide, u64_or_pow _ 7 hr.1 hr.2 (by decide)]
  · simp [Hd.fl, hb, bitI]
  · simp only [Hd.fl, bitI]
    cases h.resp <;> simp <;> omega
theorem fl_1 (h : Hd) (hf : h.Fits) (ho : h.op ≤ 15) (hz : h.zero ≤ 7) (hc : h.code ≤ 15) (hb : h.des = true) : bits .or .u64 (h.fl 1) 256 = h.fl 2 := by
  have hr := fl_range h hf ho hz hc 1
  have a0 := hf.op.1
  have a1 := hf.zero.1
  have a2 := hf.code.1
  rw [show (256 : Int) = 2 ^ 8 by decide, u64_or_pow _ 8 hr.1 hr.2 (by decide)]
  · simp [Hd.fl, hb, bitI]
  · simp only [Hd.fl, bitI]
    cases h.resp <;> cases h.avail <;> simp <;> omega
theorem fl_2 (h : Hd) (hf : h.Fits) (ho : h.op ≤ 15) (hz : h.zero ≤ 7) (hc : h.code ≤ 15) (hb : h.trunc = true) : bits .or .u64 (h.fl 2) 512 = h.fl 3 := by
  have hr := fl_range h hf ho hz hc 2
  have a0 := hf.op.1
  have a1 := hf.zero.1
  have a2 := hf.code.1
  rw [show (512 : Int) = 2 ^ 9 by decide, u64_or_pow _ 9 hr.1 hr.2 (by decide)]
  · simp [Hd.fl, hb, bitI]
  · simp only [Hd.fl, bitI]
    cases h.resp <;> cases h.avail <;> cases h.des <;> simp <;> omega
theorem fl_3 (h : Hd) (hf : h.Fits) (ho : h.op ≤ 15) (hz : h.zero ≤ 7) (hc : h.code ≤ 15) (hb : h.auth = true) : bits .or .u64 (h.fl 3) 1024 = h.fl 4 := by
  have hr := fl_range h hf ho hz hc 3
  have a0 := hf.op.1
  have a1 := hf.zero.1
  have a2 := hf.code.1
  rw [show (1024 : Int) = 2 ^ 10 by decide, u64_or_pow _ 10 hr.1 hr.2 (by decide)]
  · simp [Hd.fl, hb, bitI]
  · simp only [Hd.fl, bitI]
    cases h.resp <;> cases h.avail <;> cases h.des <;> cases h.trunc <;> simp <;> omega

theorem fl_base (h : Hd) (hf : h.Fits) (hz : h.zero ≤ 7) (hc : h.code ≤ 15) (ho : h.op ≤ 15) :
    bits .or .u64 (bits .or .u64 (h.op * 2048) (h.zero * 16)) h.code = h.op * 2048 + h.zero * 16 + h.code := by
  have a0 := hf.op.1
  have a1 := hf.zero.1
  have a2 := hf.code.1
  rw [bits_join .u64 63 (by decide) (fun n h0 h1 => by rw [IntKind.wrap_u64]; omega) 11 (h.op * 2048) (h.zero * 16) (by omega) (by omega) (by omega) (by omega) (by omega) (by omega),
    bits_join .u64 63 (by decide) (fun n h0 h1 => by rw [IntKind.wrap_u64]; omega) 4 (h.op * 2048 + h.zero * 16) h.code (by omega) (by omega) (by omega) (by omega) (by omega) (by omega)]
theorem fl_resp (h : Hd) (hf : h.Fits) (hz : h.zero ≤ 7) (hc : h.code ≤ 15) (ho : h.op ≤ 15) (hr : h.resp = true) : bits .or .u64 (h.op * 2048 + h.zero * 16 + h.code) 32768 = h.fl 0 := by
  have a0 := hf.op.1
  have a1 := hf.zero.1
  have a2 := hf.code.1
  rw [show (32768 : Int) = 2 ^ 15 by decide, u64_or_pow _ 15 (by omega) (by omega) (by decide) (by omega)]
  simp [Hd.fl, hr, bitI]; omega
theorem fl_noresp (h : Hd) (hr : h.resp = false) : h.op * 2048 + h.zero * 16 + h.code = h.fl 0 := by
  simp [Hd.fl, hr, bitI]; omega
theorem fl_same (h : Hd) : (h.avail = false → h.fl 1 = h.fl 0) ∧ (h.des = false → h.fl 2 = h.fl 1) ∧ (h.trunc = false → h.fl 3 = h.fl 2) ∧ (h.auth = false → h.fl 4 = h.fl 3) := by
  refine ⟨?_, ?_, ?_, ?_⟩ <;> intro hb <;> simp [Hd.fl, hb, bitI]

set_option maxHeartbeats 2000000 in
set_option maxRecDepth 100000 in
theorem flags_any (h : Hd) (hf : h.Fits) (ho : h.op ≤ 15) (hz : h.zero ≤ 7) (hc : h.code ≤ 15) (w : World) :
    Calls Try.prog 107 #[h.val] w fun e w' => e = .returned (.int .u64 h.flags) ∧ Fr (fun _ => False) w w' := by
  have HF := Lib.hid hf
  obtain ⟨⟨hi0, hi1⟩, ⟨ho0, _⟩, ⟨hz0, _⟩, ⟨hc0, _⟩, _, _, _, _⟩ := hf
  unfold Hd.val
  have ix0 : ∀ (a b c d : Value) (w : World), (Instr.index 207 (.agg #[a, b, c, d]) (.int .i64 0)).run Try.prog w = .ok a w := fun _ _ _ _ _ => by kernel_rfl
  have ix1 : ∀ (a b c d : Value) (w : World), (Instr.index 207 (.agg #[a, b, c, d]) (.int .i64 1)).run Try.prog w = .ok b w := fun _ _ _ _ _ => by kernel_rfl
  have ix2 : ∀ (a b c d : Value) (w : World), (Instr.index 207 (.agg #[a, b, c, d]) (.int .i64 2)).run Try.prog w = .ok c w := fun _ _ _ _ _ => by kernel_rfl
  have ix3 : ∀ (a b c d : Value) (w : World), (Instr.index 207 (.agg #[a, b, c, d]) (.int .i64 3)).run Try.prog w = .ok d w := fun _ _ _ _ _ => by kernel_rfl
  have hbase := fl_base h HF.out hz hc ho
  cases hr : h.resp
  · have h0 := fl_noresp h hr
    go_enter Try.func107, Try.ntmps107
    go_wp2_with fail
    go_loopw [3, 4, 32] (fun nv jv kv wr => ∃ (k : Nat) (z : Int), k ≤ 4 ∧ z = k ∧ kv = .int .i64 z ∧ nv = .int .u64 (h.fl k) ∧ Fr (fun _ => False) w wr) (fun _ _ kv _ => 4 - (intOf kv).toNat)
    case atStart => exact ⟨0, 0, by omega, rfl, rfl, rfl, (Fr.refl _ _).alloc _⟩
    case round =>
      obtain ⟨k, z, hk, hz', rfl, rfl, hwr⟩ := hrel
      have HWR := Lib.hid hwr; clear hwr
      clear h0 hbase
      obtain rfl | rfl | rfl | rfl | rfl : k = 0 ∨ k = 1 ∨ k = 2 ∨ k = 3 ∨ k = 4 := by omega
      · obtain rfl : z = 0 := by omega
        clear hz'
        cases hb : h.avail
        · have HS := Lib.hid ((fl_same h).1 hb)
          go_wp2_with fail
          go_roundw
          case rel => exact ⟨1, _, by omega, rfl, rfl, by rw [HS.out], HWR.out⟩
          case measure => simp [intOf]
        · have hs := fl_0 h HF.out ho hz hc hb
          go_wp2_with fail
          go_roundw
          case rel => exact ⟨1, _, by omega, rfl, rfl, rfl, HWR.out⟩
          case measure => simp [intOf]
      · obtain rfl : z = 1 := by omega
        clear hz'
        cases hb : h.des
        · have HS := Lib.hid ((fl_same h).2.1 hb)
          go_wp2_with fail
          go_roundw
          case rel => exact ⟨2, _, by omega, rfl, rfl, by rw [HS.out], HWR.out⟩
          case measure => simp [intOf]
        · have hs := fl_1 h HF.out ho hz hc hb
          go_wp2_with fail
          go_roundw
          case rel => exact ⟨2, _, by omega, rfl, rfl, rfl, HWR.out⟩
          case measure => simp [intOf]
      · obtain rfl : z = 2 := by omega
        clear hz'
        cases hb : h.trunc
        · have HS := Lib.hid ((fl_same h).2.2.1 hb)
          go_wp2_with fail
          go_roundw
          case rel => exact ⟨3, _, by omega, rfl, rfl, by rw [HS.out], HWR.out⟩
          case measure => simp [intOf]
        · have hs := fl_2 h HF.out ho hz hc hb
          go_wp2_with fail
          go_roundw
          case rel => exact ⟨3, _, by omega, rfl, rfl, rfl, HWR.out⟩
          case measure => simp [intOf]
      · obtain rfl : z = 3 := by omega
        clear hz'
        cases hb : h.auth
        · have HS := Lib.hid ((fl_same h).2.2.2 hb)
          go_wp2_with fail
          go_roundw
          case rel => exact ⟨4, _, by omega, rfl, rfl, by rw [HS.out], HWR.out⟩
          case measure => simp [intOf]
        · have hs := fl_3 h HF.out ho hz hc hb
          go_wp2_with fail
          go_roundw
          case rel => exact ⟨4, _, by omega, rfl, rfl, rfl, HWR.out⟩
          case measure => simp [intOf]
      · obtain rfl : z = 4 := by omega
        clear hz'
        go_wp2_with fail
        go_ret
        exact ⟨rfl, HWR.out⟩
  · have h0 := fl_resp h HF.out hz hc ho hr
    go_enter Try.func107, Try.ntmps107
    go_wp2_with fail
    go_loopw [3, 4, 32] (fun nv jv kv wr => ∃ (k : Nat) (z : Int), k ≤ 4 ∧ z = k ∧ kv = .int .i64 z ∧ nv = .int .u64 (h.fl k) ∧ Fr (fun _ => False) w wr) (fun _ _ kv _ => 4 - (intOf kv).toNat)
    case atStart => exact ⟨0, 0, by omega, rfl, rfl, rfl, (Fr.refl _ _).alloc _⟩
    case round =>
      obtain ⟨k, z, hk, hz', rfl, rfl, hwr⟩ := hrel
      have HWR := Lib.hid hwr; clear hwr
      clear h0 hbase
      obtain rfl | rfl | rfl | rfl | rfl : k = 0 ∨ k = 1 ∨ k = 2 ∨ k = 3 ∨ k = 4 := by omega
      · obtain rfl : z = 0 := by omega
        clear hz'
        cases hb : h.avail
        · have HS := Lib.hid ((fl_same h).1 hb)
          go_wp2_with fail
          go_roundw
          case rel => exact ⟨1, _, by omega, rfl, rfl, by rw [HS.out], HWR.out⟩
          case measure => simp [intOf]
        · have hs := fl_0 h HF.out ho hz hc hb
          go_wp2_with fail
          go_roundw
          case rel => exact ⟨1, _, by omega, rfl, rfl, rfl, HWR.out⟩
          case measure => simp [intOf]
      · obtain rfl : z = 1 := by omega
        clear hz'
        cases hb : h.des
        · have HS := Lib.hid ((fl_same h).2.1 hb)
          go_wp2_with fail
          go_roundw
          case rel => exact ⟨2, _, by omega, rfl, rfl, by rw [HS.out], HWR.out⟩
          case measure => simp [intOf]
        · have hs := fl_1 h HF.out ho hz hc hb
          go_wp2_with fail
          go_roundw
          case rel => exact ⟨2, _, by omega, rfl, rfl, rfl, HWR.out⟩
          case measure => simp [intOf]
      · obtain rfl : z = 2 := by omega
        clear hz'
        cases hb : h.trunc
        · have HS := Lib.hid ((fl_same h).2.2.1 hb)
          go_wp2_with fail
          go_roundw
          case rel => exact ⟨3, _, by omega, rfl, rfl, by rw [HS.out], HWR.out⟩
          case measure => simp [intOf]
        · have hs := fl_2 h HF.out ho hz hc hb
          go_wp2_with fail
          go_roundw
          case rel => exact ⟨3, _, by omega, rfl, rfl, rfl, HWR.out⟩
          case measure => simp [intOf]
      · obtain rfl : z = 3 := by omega
        clear hz'
        cases hb : h.auth
        · have HS := Lib.hid ((fl_same h).2.2.2 hb)
          go_wp2_with fail
          go_roundw
          case rel => exact ⟨4, _, by omega, rfl, rfl, by rw [HS.out], HWR.out⟩
          case measure => simp [intOf]
        · have hs := fl_3 h HF.out ho hz hc hb
          go_wp2_with fail
          go_roundw
          case rel => exact ⟨4, _, by omega, rfl, rfl, rfl, HWR.out⟩
          case measure => simp [intOf]
      · obtain rfl : z = 4 := by omega
        clear hz'
        go_wp2_with fail
        go_ret
        exact ⟨rfl, HWR.out⟩
def Hd.cells (h : Hd) : List Value := [.int .u16 h.id, .bool h.resp, .int .u8 h.op, .bool h.auth, .bool h.trunc, .bool h.des, .bool h.avail, .int .u8 h.zero, .int .u8 h.code, .int .u16 h.c0, .int .u16 h.c1, .int .u16 h.c2, .int .u16 h.c3]
def HdAt (w : World) (q : Nat) (h : Hd) : Prop := ∀ j v, h.cells[j]? = some v → w.cell? ⟨q, j, none⟩ = some v
theorem HdAt.keep {S : Nat → Prop} {w w' : World} {q : Nat} {h : Hd} (a : HdAt w q h) (f : Fr S w w') (hq : ¬ S q) : HdAt w' q h := fun j v hv => f.cell (a j v hv) hq
theorem HdAt.of_block {w : World} {q : Nat} {h : Hd} {e : TypeId} {fr : Nat × Nat} (hb : w.heap[q]? = some (.cells h.cells.toArray e fr)) : HdAt w q h := by
  intro j v hv
  rw [Lib.cell_of_heap hb]
  simpa using hv

def Hd.bad (h : Hd) : Prop := 15 < h.op ∨ 15 < h.code ∨ 7 < h.zero
instance (h : Hd) : Decidable h.bad := by unfold Hd.bad; infer_instance
def two (x : Int) : List UInt8 := bigEnd 2 x.toNat
def Hd.cs (h : Hd) : List Int := [h.c0, h.c1, h.c2, h.c3]
def Hd.part (h : Hd) (k : Nat) : List UInt8 := two h.id ++ two h.flags ++ (h.cs.take k).flatMap two
def Hd.bytes (h : Hd) : List UInt8 := h.part 4
def hdOut (h : Hd) : WOut := if h.bad then .ref 11 else .ok h.bytes
theorem two_length (x : Int) : (two x).length = 2 := bigEnd_length _ _
theorem hd_bytes_length (h : Hd) : h.bytes.length = 12 := by simp [Hd.bytes, Hd.part, Hd.cs, two_length]
theorem part_length (h : Hd) (k : Nat) : (h.part k).length ≤ 12 := by
  simp only [Hd.part, Hd.cs, List.length_append, two_length]
  match k with
  | 0 => simp
  | 1 => simp [two_length]
  | 2 => simp [two_length]
  | 3 => simp [two_length]
  | k + 4 => simp [two_length]
theorem numOk_two (x : Int) (h0 : 0 ≤ x) (h1 : x ≤ 65535) : NumOk x.toNat 2 := ⟨by omega, by omega, by simp; omega⟩
theorem cells_two (bs : List UInt8) (x : Int) : Lib.byteCells bs ++ Lib.byteCells (bigEnd (2 : Int).toNat x.toNat) = Lib.byteCells (bs ++ two x) := by simp [Lib.byteCells, two]

set_option maxHeartbeats 2000000 in
set_option maxRecDepth 100000 in
theorem encode1_any (b q B : Nat) (S : Nat → Prop) (h : Hd) (hf : h.Fits) (w : World) (h0 : WrAt B S w b (.pointer none) (.slice none 0 0) []) (hq : HdAt w q h) (hqS : ¬ S q) :
    Calls Try.prog 106 #[.pointer (some ⟨b, 0, none⟩), .pointer (some ⟨q, 0, none⟩)] w fun e w' => Fr S w w' ∧ ∃ x, WEnds B S b w' x e ∧ x = hdOut h := by
  have HF := Lib.hid hf
  have H0 := Lib.hid h0; clear h0
  have HQ := Lib.hid hq; clear hq
  obtain ⟨⟨hi0, hi1⟩, ⟨ho0, ho1⟩, ⟨hz0, hz1⟩, ⟨hc0, hc1⟩, hC0, hC1, hC2, hC3⟩ := hf
  have k0 := HQ.out 0 _ rfl
  have k2 := HQ.out 2 _ rfl
  have k7 := HQ.out 7 _ rfl
  have k8 := HQ.out 8 _ rfl
  by_cases hbad : h.bad
  · have hout : hdOut h = .ref 11 := by unfold hdOut; rw [if_pos hbad]
    have HO := Lib.hid hout; clear hout
    have fin : ∀ (w' : World), Fr S w w' → Fr S w w' ∧ ∃ x, WEnds B S b w' x (.panicked [{ v := refused 11, recovered := false }]) ∧ x = hdOut h := fun w' hw => ⟨hw, _, .ref 11 (by decide), by rw [HO.out]⟩
    have FIN := Lib.hid fin; clear fin
    by_cases b1 : 15 < h.op
    · clear hbad
      go_enter Try.func106, Try.ntmps106
      go_wp2_with fail
      refine (refuse_any 11 _).mono ?_
      rintro e w2 ⟨rfl, rfl⟩
      go_wp2_with fail
      exact ⟨rfl, FIN.out _ (Fr.refl _ _)⟩
    · by_cases b2 : 15 < h.code
      · clear hbad
        go_enter Try.func106, Try.ntmps106
        go_wp2_with fail
        refine (refuse_any 11 _).mono ?_
        rintro e w2 ⟨rfl, rfl⟩
        go_wp2_with fail
        exact ⟨rfl, FIN.out _ (Fr.refl _ _)⟩
      · have b3 : 7 < h.zero := by unfold Hd.bad at hbad; omega
        clear hbad
        go_enter Try.func106, Try.ntmps106
        go_wp2_with fail
        refine (refuse_any 11 _).mono ?_
        rintro e w2 ⟨rfl, rfl⟩
        go_wp2_with fail
        exact ⟨rfl, FIN.out _ (Fr.refl _ _)⟩
  · have hout : hdOut h = .ok h.bytes := by unfold hdOut; rw [if_neg hbad]
    have HO := Lib.hid hout; clear hout
    obtain ⟨g1, g2, g3⟩ : h.op ≤ 15 ∧ h.code ≤ 15 ∧ h.zero ≤ 7 := by unfold Hd.bad at hbad; omega
    clear hbad
    have hfl : 0 ≤ h.flags ∧ h.flags < 65536 := fl_range h HF.out g1 g3 g2 4
    go_enter Try.func106, Try.ntmps106
    go_wp2_with fail
    refine (writerNum_any B S _ b _ _ _ h.id 2 H0.out hi0 (by omega) (by simp) (numOk_two _ hi0 hi1)).mono ?_
    rintro e w1 ⟨rfl, ⟨p1, v1, h1⟩, hf1⟩
    have hq1 := HQ.out.keep hf1 hqS
    have HQ1 := Lib.hid hq1; clear hq1
    have e0 := HQ1.out 0 _ rfl
    have e1 := HQ1.out 1 _ rfl
    have e2 := HQ1.out 2 _ rfl
    have e3 := HQ1.out 3 _ rfl
    have e4 := HQ1.out 4 _ rfl
    have e5 := HQ1.out 5 _ rfl
    have e6 := HQ1.out 6 _ rfl
    have e7 := HQ1.out 7 _ rfl
    have e8 := HQ1.out 8 _ rfl
    have e9 := HQ1.out 9 _ rfl
    have e10 := HQ1.out 10 _ rfl
    have e11 := HQ1.out 11 _ rfl
    have e12 := HQ1.out 12 _ rfl
    have H1 := Lib.hid h1; clear h1
    have F1 := Lib.hid hf1; clear hf1
    clear k0 k2 k7 k8
    go_wp2_with fail
    refine (flags_any h HF.out g1 g3 g2 w1).mono ?_
    rintro e w2 ⟨rfl, hf2⟩
    have hq2 := HQ1.out.keep hf2 (fun h => h)
    have HQ2 := Lib.hid hq2; clear hq2
    clear e0 e1 e2 e3 e4 e5 e6 e7 e8 e9 e10 e11 e12
    go_wp2_with fail
    have hw2 : WrAt B S w2 b p1 v1 _ := H1.out.keep hf2 (fun _ _ h => h.elim) (fun _ _ h => h.elim)
    refine (writerNum_any B S _ b _ _ _ h.flags 2 hw2 hfl.1 (by have := hfl.2; omega) (by simp [Lib.byteCells, bigEnd_length]) (numOk_two _ hfl.1 (by have := hfl.2; omega))).mono ?_
    rintro e w3 ⟨rfl, ⟨p3, v3, h3⟩, hf3⟩
    have F3 := Lib.hid ((F1.out.trans hf2 (fun _ h => h.elim)).trans hf3 (fun k hk => .inl hk))
    have hq3 := HQ2.out.keep hf3 hqS
    have e9 := hq3 9 _ rfl
    have e10 := hq3 10 _ rfl
    have e11 := hq3 11 _ rfl
    have e12 := hq3 12 _ rfl
    have H3 := Lib.hid h3; clear h3
    clear hf2 hf3 hw2 hq3
    clear hfl
    have ix0 : ∀ (a b c d : Value) (w : World), (Instr.index 62 (.agg #[a, b, c, d]) (.int .i64 0)).run Try.prog w = .ok a w := fun _ _ _ _ _ => by kernel_rfl
    have ix1 : ∀ (a b c d : Value) (w : World), (Instr.index 62 (.agg #[a, b, c, d]) (.int .i64 1)).run Try.prog w = .ok b w := fun _ _ _ _ _ => by kernel_rfl
    have ix2 : ∀ (a b c d : Value) (w : World), (Instr.index 62 (.agg #[a, b, c, d]) (.int .i64 2)).run Try.prog w = .ok c w := fun _ _ _ _ _ => by kernel_rfl
    have ix3 : ∀ (a b c d : Value) (w : World), (Instr.index 62 (.agg #[a, b, c, d]) (.int .i64 3)).run Try.prog w = .ok d w := fun _ _ _ _ _ => by kernel_rfl
    go_wp2_with fail
    go_loopw [4, 30] (fun nv kv wr => ∃ (k : Nat) (z : Int) (p v : Value), k ≤ 4 ∧ z = k ∧ kv = .int .i64 z ∧ WrAt B S wr b p v (Lib.byteCells (h.part k)) ∧ Fr S w wr) (fun _ kv _ => 4 - (intOf kv).toNat)
    case atStart => exact ⟨0, 0, p3, v3, by omega, rfl, rfl, by have := H3.out; simpa [Hd.part, two, Lib.byteCells] using this, F3.out⟩
    case round =>
      obtain ⟨k, z, p4, v4, hk, hz', rfl, hw4, hf4⟩ := hrel
      have H4 := Lib.hid hw4; clear hw4
      have F4 := Lib.hid hf4; clear hf4
      obtain rfl | rfl | rfl | rfl | rfl : k = 0 ∨ k = 1 ∨ k = 2 ∨ k = 3 ∨ k = 4 := by omega
      · obtain rfl : z = 0 := by omega
        clear hz'
        go_wp2_with fail
        refine (writerNum_any B S _ b _ _ _ h.c0 2 H4.out hC0.1 (by omega) (by have := part_length h 0; simp only [Lib.byteCells_length]; omega) (numOk_two _ hC0.1 hC0.2)).mono ?_
        rintro e w5 ⟨rfl, ⟨p5, v5, h5⟩, hf5⟩
        rw [cells_two] at h5
        have H5 := Lib.hid h5; clear h5
        have F5 := Lib.hid (F4.out.trans hf5 (fun k hk => .inl hk)); clear hf5
        go_wp2_with fail
        go_roundw
        case rel => exact ⟨1, _, p5, v5, by omega, rfl, rfl, by have := H5.out; simpa [Hd.part, Hd.cs] using this, F5.out⟩
        case measure => simp [intOf]
      · obtain rfl : z = 1 := by omega
        clear hz'
        go_wp2_with fail
        refine (writerNum_any B S _ b _ _ _ h.c1 2 H4.out hC1.1 (by omega) (by have := part_length h 1; simp only [Lib.byteCells_length]; omega) (numOk_two _ hC1.1 hC1.2)).mono ?_
        rintro e w5 ⟨rfl, ⟨p5, v5, h5⟩, hf5⟩
        rw [cells_two] at h5
        have H5 := Lib.hid h5; clear h5
        have F5 := Lib.hid (F4.out.trans hf5 (fun k hk => .inl hk)); clear hf5
        go_wp2_with fail
        go_roundw
        case rel => exact ⟨2, _, p5, v5, by omega, rfl, rfl, by have := H5.out; simpa [Hd.part, Hd.cs] using this, F5.out⟩
        case measure => simp [intOf]
      · obtain rfl : z = 2 := by omega
        clear hz'
        go_wp2_with fail
        refine (writerNum_any B S _ b _ _ _ h.c2 2 H4.out hC2.1 (by omega) (by have := part_length h 2; simp only [Lib.byteCells_length]; omega) (numOk_two _ hC2.1 hC2.2)).mono ?_
        rintro e w5 ⟨rfl, ⟨p5, v5, h5⟩, hf5⟩
        rw [cells_two] at h5
        have H5 := Lib.hid h5; clear h5
        have F5 := Lib.hid (F4.out.trans hf5 (fun k hk => .inl hk)); clear hf5
        go_wp2_with fail
        go_roundw
        case rel => exact ⟨3, _, p5, v5, by omega, rfl, rfl, by have := H5.out; simpa [Hd.part, Hd.cs] using this, F5.out⟩
        case measure => simp [intOf]
      · obtain rfl : z = 3 := by omega
        clear hz'
        go_wp2_with fail
        refine (writerNum_any B S _ b _ _ _ h.c3 2 H4.out hC3.1 (by omega) (by have := part_length h 3; simp only [Lib.byteCells_length]; omega) (numOk_two _ hC3.1 hC3.2)).mono ?_
        rintro e w5 ⟨rfl, ⟨p5, v5, h5⟩, hf5⟩
        rw [cells_two] at h5
        have H5 := Lib.hid h5; clear h5
        have F5 := Lib.hid (F4.out.trans hf5 (fun k hk => .inl hk)); clear hf5
        go_wp2_with fail
        go_roundw
        case rel => exact ⟨4, _, p5, v5, by omega, rfl, rfl, by have := H5.out; simpa [Hd.part, Hd.cs] using this, F5.out⟩
        case measure => simp [intOf]
      · obtain rfl : z = 4 := by omega
        clear hz'
        go_wp2_with fail
        go_end0
        exact ⟨F4.out, _, .ok _ p4 v4 H4.out, by rw [HO.out]; rfl⟩
end Go.Proofs.Ytkclgemkeifbaaa
