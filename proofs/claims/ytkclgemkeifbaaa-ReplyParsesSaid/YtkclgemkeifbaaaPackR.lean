/-
  pack.Writer.Text and the methods of pack.Reader.
-/
import Derived.Test.YtkclgemkeifbaaaPackN
import Derived.Lib.ConvBytes
import Derived.Laws.Bits64
import Derived.Laws.BitsLemmas
namespace Go.Proofs.Ytkclgemkeifbaaa
open Go.RowKit Go.Proofs

set_option maxHeartbeats 1000000 in
set_option maxRecDepth 100000 in
theorem writerText_bad (b : Addr) (s : ByteArray) (w : World) (hs : s.size ≤ 9223372036854775807) (h : 255 < s.size) :
    Calls Try.prog 89 #[.pointer (some b), .string s] w fun e w' => e = .panicked [{ v := refused 3, recovered := false }] ∧ w' = w := by
  go_enter Try.func89, Try.ntmps89
  go_wp2_with fail
  refine (refuse_any 3 w).mono ?_
  rintro e w' ⟨rfl, rfl⟩
  go_wp2
  exact ⟨rfl, rfl, rfl⟩

set_option maxHeartbeats 1000000 in
set_option maxRecDepth 100000 in
theorem writerText_any (B : Nat) (S : Nat → Prop) (w : World) (b : Nat) (p v : Value) (bs : List Value) (s : ByteArray) (h : WrAt B S w b p v bs) (hlen : bs.length + 500 ≤ 140737488355328) (hs : s.size ≤ 255) :
    Calls Try.prog 89 #[.pointer (some ⟨b, 0, none⟩), .string s] w fun e w' => e = .returned (.tuple #[]) ∧ (∃ p' v', WrAt B S w' b p' v' (bs ++ (.int .u8 s.size :: Lib.strCells s))) ∧ Fr S w w' := by
  have H := Lib.hid h; clear h
  go_enter Try.func89, Try.ntmps89
  go_wp2_with fail
  refine (writerNum_any B S w b p v bs s.size 1 H.out (by omega) (by omega) (by omega) ⟨by omega, by omega, by simp; omega⟩).mono ?_
  rintro e w1 ⟨rfl, ⟨p1, v1, h1⟩, hf1⟩
  have H1 := Lib.hid h1; clear h1
  go_wp2_with fail
  refine (writerRaw_any B S w1 b p1 v1 _ s H1.out (by simp [Lib.byteCells_length, bigEnd_length]; omega)).mono ?_
  rintro e w2 ⟨rfl, ⟨v2, h2⟩, hf2⟩
  have e1 : bs ++ Lib.byteCells (bigEnd (1 : Int).toNat (s.size : Int).toNat) ++ Lib.strCells s = bs ++ (.int .u8 s.size :: Lib.strCells s) := by
    have : s.size % 256 = s.size := Nat.mod_eq_of_lt (by omega)
    simp [bigEnd, Lib.byteCells, this]
  rw [e1] at h2
  go_wp2
  go_end0
  exact ⟨rfl, ⟨_, v2, h2⟩, hf1.trans hf2 (fun k hk => .inl hk)⟩

/-- the reader at block b still holds s -/
def RdAt (w : World) (b : Nat) (s : ByteArray) : Prop := w.cell? ⟨b, 0, none⟩ = some (.string s) ∧ w.frozen? ⟨b, 0, none⟩ = false ∧ s.size ≤ 9223372036854775807

set_option maxHeartbeats 1000000 in
set_option maxRecDepth 100000 in
theorem readerRaw_neg (b : Nat) (n : Int) (w : World) (h : n < 0) :
    Calls Try.prog 102 #[.pointer (some ⟨b, 0, none⟩), .int .i64 n] w fun e w' => e = .panicked [{ v := refused 11, recovered := false }] ∧ w' = w := by
  go_enter Try.func102, Try.ntmps102
  go_wp2_with fail
  refine (refuse_any 11 w).mono ?_
  rintro e w' ⟨rfl, rfl⟩
  go_wp2
  exact ⟨rfl, rfl, rfl⟩

set_option maxHeartbeats 1000000 in
set_option maxRecDepth 100000 in
theorem readerRaw_short (b : Nat) (n : Int) (s : ByteArray) (w : World) (hr : RdAt w b s) (h0 : 0 ≤ n) (h : (s.size : Int) < n) (hn : n ≤ 9223372036854775807) :
    Calls Try.prog 102 #[.pointer (some ⟨b, 0, none⟩), .int .i64 n] w fun e w' => e = .panicked [{ v := refused 2, recovered := false }] ∧ w' = w := by
  obtain ⟨hr1, hr2, hr3⟩ := hr
  go_enter Try.func102, Try.ntmps102
  go_wp2_with fail
  refine (refuse_any 2 w).mono ?_
  rintro e w' ⟨rfl, rfl⟩
  go_wp2
  exact ⟨rfl, rfl, rfl⟩

set_option maxHeartbeats 1000000 in
set_option maxRecDepth 100000 in
theorem readerRaw_ok (b : Nat) (n : Nat) (s : ByteArray) (w : World) (hr : RdAt w b s) (h : n ≤ s.size) :
    Calls Try.prog 102 #[.pointer (some ⟨b, 0, none⟩), .int .i64 n] w fun e w' => e = .returned (.string (s.extract 0 n)) ∧ w' = w.setCell ⟨b, 0, none⟩ (.string (s.extract n s.size)) := by
  obtain ⟨hr1, hr2, hr3⟩ := hr
  go_enter Try.func102, Try.ntmps102
  go_wp2
  go_ret
  exact ⟨rfl, rfl⟩

theorem RdAt.after {w : World} {b : Nat} {s s' : ByteArray} (h : RdAt w b s) (hs : s'.size ≤ s.size) : RdAt (w.setCell ⟨b, 0, none⟩ (.string s')) b s' :=
  ⟨World.cell?_setCell_same _ _ _ h.1, by rw [World.frozen?_setCell]; exact h.2.1, Nat.le_trans hs h.2.2⟩

set_option maxHeartbeats 1000000 in
set_option maxRecDepth 100000 in
theorem readerNum_bad (b : Addr) (n : Int) (w : World) (h : n < 1 ∨ 8 < n) :
    Calls Try.prog 66 #[.pointer (some b), .int .i64 n] w fun e w' => e = .panicked [{ v := refused 11, recovered := false }] ∧ w' = w := by
  by_cases h1 : n < 1
  · clear h
    go_enter Try.func66, Try.ntmps66
    go_wp2_with fail
    refine (refuse_any 11 w).mono ?_
    rintro e w' ⟨rfl, rfl⟩
    go_wp2
    exact ⟨rfl, rfl, rfl⟩
  · have h2 : 8 < n := by omega
    clear h
    go_enter Try.func66, Try.ntmps66
    go_wp2_with fail
    refine (refuse_any 11 w).mono ?_
    rintro e w' ⟨rfl, rfl⟩
    go_wp2
    exact ⟨rfl, rfl, rfl⟩

set_option maxHeartbeats 1000000 in
set_option maxRecDepth 100000 in
theorem readerNum_short (b : Nat) (n : Int) (s : ByteArray) (w : World) (hr : RdAt w b s) (h1 : 1 ≤ n) (h8 : n ≤ 8) (h : (s.size : Int) < n) :
    Calls Try.prog 66 #[.pointer (some ⟨b, 0, none⟩), .int .i64 n] w fun e w' => e = .panicked [{ v := refused 2, recovered := false }] ∧ w' = w := by
  have h1' : ¬ n < 1 := by omega
  have h8' : ¬ 8 < n := by omega
  have H := Lib.hid hr; clear hr
  go_enter Try.func66, Try.ntmps66
  go_wp2_with fail
  refine (readerRaw_short b n s w H.out (by omega) h (by omega)).mono ?_
  rintro e w' ⟨rfl, rfl⟩
  go_wp2
  exact ⟨rfl, rfl, rfl⟩

theorem conv_bytes (w : World) (s : ByteArray) (n : Nat) (hn : s.size = n) : ∃ cap w', (convert 9 47 (.string s)).run Try.prog w = .ok (.slice (some ⟨w.heap.size, 0, none⟩) n cap) w' ∧ Fr (fun _ => False) w w' ∧ w'.heap.size = w.heap.size + 1 ∧
    (∀ j (h : j < s.data.toList.length), w'.cell? ⟨w.heap.size, j, none⟩ = some (.int .u8 (s.data.toList[j]).toNat)) := by
  subst hn
  refine ⟨_, _, Lib.run_convert_string_bytes w 9 47 5 s Try.underlying9 Try.underlying47 Try.underlying5, ?_, Lib.bytesWorld_size _ _ _, ?_⟩
  · have h : Fr (fun k => w.heap.size ≤ k) w (Lib.bytesWorld w 5 s) := (((Fr.refl (fun k => w.heap.size ≤ k) w).drew).alloc _).freeze (Nat.le_refl w.heap.size) _
    exact h.mono (fun k hk h' => by omega)
  · intro j hj
    rw [Lib.bytesWorld_cell w 5 s j (by simpa using hj)]
    simp [List.getD, List.getElem?_eq_getElem hj]

theorem or_byte (a : Nat) (b : UInt8) (h : a < 72057594037927936) : bits .or .u64 (IntKind.u64.wrap ((a : Int) * 256)) (IntKind.u64.wrap (b.toNat : Int)) = ((256 * a + b.toNat : Nat) : Int) := by
  have hb := b.toNat_lt
  rw [IntKind.wrap_u64, IntKind.wrap_u64, Int.emod_eq_of_lt (by omega) (by omega), Int.emod_eq_of_lt (by omega) (by omega)]
  rw [bits_join .u64 64 (by decide) (fun n h0 h1 => by rw [IntKind.wrap_u64]; omega) 8 _ _ (by omega) (by omega) (by omega) (by omega) (by omega) (by omega)]
  omega

set_option maxHeartbeats 1000000 in
set_option maxRecDepth 100000 in
theorem readerNum_ok (b : Nat) (n : Nat) (s : ByteArray) (w : World) (hr : RdAt w b s) (h1 : 1 ≤ n) (h8 : n ≤ 8) (h : n ≤ s.size) :
    Calls Try.prog 66 #[.pointer (some ⟨b, 0, none⟩), .int .i64 n] w fun e w' => e = .returned (.int .u64 (getNum (s.extract 0 n).data.toList : Nat)) ∧ RdAt w' b (s.extract n s.size) ∧ Fr (· = b) w w' := by
  have hR := hr.after (s' := s.extract n s.size) (by simp)
  have hF : Fr (· = b) w (w.setCell ⟨b, 0, none⟩ (.string (s.extract n s.size))) := (Fr.refl (fun k => k = b) w).setCell (p := ⟨b, 0, none⟩) (.inl rfl) _
  have H := Lib.hid hr; clear hr
  have HR := Lib.hid hR; clear hR
  obtain ⟨t, ht, hts⟩ : ∃ t, s.extract 0 n = t ∧ t.size = n := ⟨_, rfl, by simp; omega⟩
  have hRaw := readerRaw_ok b n s w H.out h
  rw [ht] at hRaw ⊢
  have htl : t.data.toList.length = n := by rw [← hts]; simp
  obtain ⟨cap, w2, hconv, hf2, hs2, hcells⟩ := conv_bytes (w.setCell ⟨b, 0, none⟩ (.string (s.extract n s.size))) t n hts
  have hlt := lt_of_cell HR.out.1
  simp only at hlt
  have HF : Hid (RdAt w2 b (s.extract n s.size) ∧ Fr (· = b) w w2) := ⟨⟨hf2.cell HR.out.1 (fun h => h), by rw [hf2.frozen HR.out.1 (fun h => h)]; exact HR.out.2.1, HR.out.2.2⟩, hF.trans hf2 (fun k hk => hk.elim)⟩
  clear ht hF hf2 hs2 HR
  generalize hB : (w.setCell ⟨b, 0, none⟩ (.string (s.extract n s.size))).heap.size = B at *
  have HC := Lib.hid hcells; clear hcells
  go_enter Try.func66, Try.ntmps66
  go_wp2_with fail
  refine hRaw.mono ?_
  rintro e w1 ⟨rfl, rfl⟩
  go_wp2_with fail
  go_loopw [5, 20] (fun nv iv wr => ∃ j : Nat, iv = .int .i64 j ∧ j ≤ n ∧ nv = .int .u64 (getNum (t.data.toList.take j) : Nat) ∧ wr = w2) (fun _ iv _ => n - (intOf iv).toNat)
  case atStart => exact ⟨0, rfl, Nat.zero_le _, rfl, rfl⟩
  case round =>
    obtain ⟨j, rfl, hj, rfl, rfl⟩ := hrel
    by_cases hj1 : j < n
    · have hcell := HC.out j (by omega)
      have hlast : t.data.toList.take (j + 1) = t.data.toList.take j ++ [t.data.toList[j]'(by omega)] := by
        rw [List.take_succ_eq_append_getElem (by omega)]
      generalize hb : t.data.toList[j]'(by omega) = c at hcell hlast
      have hbd := getNum_lt (t.data.toList.take j)
      have hor := or_byte (getNum (t.data.toList.take j)) c (by
        refine Nat.lt_of_lt_of_le hbd ?_
        rw [List.length_take]
        exact Nat.pow_le_pow_right (n := 256) (by omega) (show min j _ ≤ 7 by omega))
      have HO := Lib.hid hor; clear hor
      clear hbd
      go_wp2_with fail
      go_roundw
      case rel => exact ⟨j + 1, by go_num, by omega, by rw [HO.out, hlast, getNum_snoc], trivial⟩
      case measure => simp [intOf]; omega
    · have hjn : j = n := by omega
      subst hjn
      go_wp2_with fail
      go_ret
      refine ⟨?_, HF.out⟩
      rw [List.take_of_length_le (by omega)]
      rfl

theorem getNum_one (s : ByteArray) : getNum (s.extract 0 1).data.toList < 256 := by
  have h := getNum_lt (s.extract 0 1).data.toList
  refine Nat.lt_of_lt_of_le h ?_
  have : (s.extract 0 1).data.toList.length ≤ 1 := by simp; omega
  exact Nat.le_trans (Nat.pow_le_pow_right (n := 256) (by omega) this) (by decide)

set_option maxHeartbeats 1000000 in
set_option maxRecDepth 100000 in
theorem readerText_none (b : Nat) (s : ByteArray) (w : World) (hr : RdAt w b s) (h : s.size = 0) :
    Calls Try.prog 118 #[.pointer (some ⟨b, 0, none⟩)] w fun e w' => e = .panicked [{ v := refused 2, recovered := false }] ∧ w' = w := by
  have H := Lib.hid hr; clear hr
  go_enter Try.func118, Try.ntmps118
  go_wp2_with fail
  refine (readerNum_short b 1 s w H.out (by omega) (by omega) (by omega)).mono ?_
  rintro e w' ⟨rfl, rfl⟩
  go_wp2
  exact ⟨rfl, rfl, rfl⟩

set_option maxHeartbeats 1000000 in
set_option maxRecDepth 100000 in
theorem readerText_short (b : Nat) (s : ByteArray) (n : Nat) (w : World) (hr : RdAt w b s) (h : 1 ≤ s.size) (hn : getNum (s.extract 0 1).data.toList = n) (h2 : s.size < n + 1) :
    Calls Try.prog 118 #[.pointer (some ⟨b, 0, none⟩)] w fun e w' => e = .panicked [{ v := refused 2, recovered := false }] ∧ Fr (· = b) w w' := by
  have hb := getNum_one s
  rw [hn] at hb
  have hN := readerNum_ok b 1 s w hr (by omega) (by omega) h
  rw [hn] at hN
  have H := Lib.hid hr; clear hr hn
  go_enter Try.func118, Try.ntmps118
  go_wp2_with fail
  refine hN.mono ?_
  rintro e w1 ⟨rfl, hr1, hf1⟩
  have HR1 := Lib.hid hr1; clear hr1
  go_wp2_with fail
  refine (readerRaw_short b n _ w1 HR1.out (by omega) (by simp; omega) (by omega)).mono ?_
  rintro e w' ⟨rfl, rfl⟩
  go_wp2
  exact ⟨rfl, rfl, hf1⟩

set_option maxHeartbeats 1000000 in
set_option maxRecDepth 100000 in
theorem readerText_ok (b : Nat) (s : ByteArray) (n : Nat) (w : World) (hr : RdAt w b s) (h : 1 ≤ s.size) (hn : getNum (s.extract 0 1).data.toList = n) (h2 : n + 1 ≤ s.size) :
    Calls Try.prog 118 #[.pointer (some ⟨b, 0, none⟩)] w fun e w' => e = .returned (.string ((s.extract 1 s.size).extract 0 n)) ∧ RdAt w' b ((s.extract 1 s.size).extract n (s.extract 1 s.size).size) ∧ Fr (· = b) w w' := by
  have hb := getNum_one s
  rw [hn] at hb
  have hN := readerNum_ok b 1 s w hr (by omega) (by omega) h
  rw [hn] at hN
  have H := Lib.hid hr; clear hr hn
  go_enter Try.func118, Try.ntmps118
  go_wp2_with fail
  refine hN.mono ?_
  rintro e w1 ⟨rfl, hr1, hf1⟩
  have HR1 := Lib.hid hr1; clear hr1
  go_wp2_with fail
  refine (readerRaw_ok b n _ w1 HR1.out (by simp; omega)).mono ?_
  rintro e w' ⟨rfl, rfl⟩
  have HR2 := HR1.out.after (s' := (s.extract 1 s.size).extract n (s.extract 1 s.size).size) (by simp)
  have HH := Lib.hid HR2; clear HR2
  go_wp2
  go_ret
  have e1 : (s.extract 1 s.size).size = s.size - 1 := by simp
  refine ⟨rfl, ?_, hf1.setCell (p := ⟨b, 0, none⟩) (.inl rfl) _⟩
  have := HH.out
  rw [e1] at this ⊢
  exact this

set_option maxHeartbeats 1000000 in
set_option maxRecDepth 100000 in
theorem readerLeft_any (b : Nat) (s : ByteArray) (w : World) (hr : RdAt w b s) :
    Calls Try.prog 103 #[.pointer (some ⟨b, 0, none⟩)] w fun e w' => e = .returned (.int .i64 s.size) ∧ w = w' := by
  obtain ⟨hr1, hr2, hr3⟩ := hr
  go_enter Try.func103, Try.ntmps103
  go_wp2
  go_ret
  exact ⟨rfl, rfl⟩

end Go.Proofs.Ytkclgemkeifbaaa
