/-
  The reference's names: Bytes, Same.
-/
import Derived.Test.YtkclgemkeifbaaaNmMay
import Derived.Test.YtkclgemkeifbaaaRegionZ
namespace Go.Proofs.Ytkclgemkeifbaaa
open Go.RowKit Go.Proofs

set_option maxHeartbeats 2000000 in
set_option maxRecDepth 100000 in
theorem refSame21_any (a : Option Addr) (cap : Nat) (l : List Lbl) (b : Option Addr) (cap' : Nat) (m : List Lbl) (w : World) (h : SlA w a l.length cap (strVs l)) (h' : SlA w b m.length cap' (strVs m)) :
    Calls Try.prog 30 #[.slice a l.length cap, .slice b m.length cap'] w fun e w' => e = .returned (.bool (decide (l = m))) ∧ Gr w w' := by
  have hle := h.le
  have hmx := h.max
  have hle' := h'.le
  have hmx' := h'.max
  have H := Lib.hid h
  have H' := Lib.hid h'
  obtain ⟨r, hr⟩ : ∃ r, r = decide (l = m) := ⟨_, rfl⟩
  rw [← hr]
  have HR := Lib.hid hr
  clear h h' hr
  by_cases hlen : l.length = m.length
  · have hn : ((l.length : Int) != (m.length : Int)) = false := by simp [hlen]
    go_enter Try.func30, Try.ntmps30
    go_wp2_with fail
    clear hn
    go_loopw [5] (fun iv wr => ∃ k : Nat, iv = .int .i64 k ∧ k ≤ l.length ∧ Hid (l.take k = m.take k) ∧ Gr w wr) (fun iv _ => l.length - (intOf iv).toNat)
    case atStart => exact ⟨0, rfl, Nat.zero_le _, Lib.hid rfl, Fr.refl _ _⟩
    case round =>
      obtain ⟨k, rfl, hk, HT, fr⟩ := hrel
      have FR := Lib.hid fr
      by_cases hlt : k < l.length
      · have hlt2 : k < m.length := by omega
        obtain ⟨b1, o1, rfl, c1⟩ := (H.out.keep fr (fun _ _ h => h)).at1 k hlt
        obtain ⟨b2, o2, rfl, c2⟩ := (H'.out.keep fr (fun _ _ h => h)).at1 k hlt2
        have HS : Hid (l[k] = m[k] → l.take (k + 1) = m.take (k + 1)) := Lib.hid (fun h => by rw [List.take_succ_eq_append_getElem hlt, List.take_succ_eq_append_getElem hlt2, HT.out, h])
        have HN : Hid (l[k] ≠ m[k] → l ≠ m) := Lib.hid (fun h e => h (by subst e; rfl))
        clear fr
        generalize l[k] = x at *
        generalize m[k] = y at *
        by_cases hxy : x = y
        · subst hxy
          have HS2 := Lib.hid (HS.out rfl)
          clear HS HN
          go_wp2_with fail
          go_quiet (fail)
          go_wp2_with fail
          go_roundw
          case rel => exact ⟨k + 1, by go_num, by omega, HS2, FR.out.drewN _⟩
          case measure => simp [intOf]; omega
        · have HE : Hid (r = false) := Lib.hid (by rw [HR.out]; exact decide_eq_false (HN.out hxy))
          have hne : (x == y) = false := by simpa using hxy
          clear HS HN hxy
          go_wp2_with fail
          go_quiet (fail)
          go_wp2_with fail
          go_ret
          exact ⟨by rw [HE.out]; rfl, FR.out.drewN _⟩
      · have HE : Hid (r = true) := Lib.hid (by
          have h1 := HT.out
          rw [List.take_of_length_le (by omega), List.take_of_length_le (by omega)] at h1
          rw [HR.out]; exact decide_eq_true h1)
        go_wp2_with fail
        go_ret
        exact ⟨by rw [HE.out]; rfl, FR.out⟩
  · have HE : Hid (r = false) := Lib.hid (by rw [HR.out]; exact decide_eq_false (fun e => hlen (by rw [e])))
    have hn : ((l.length : Int) != (m.length : Int)) = true := by simp; omega
    go_enter Try.func30, Try.ntmps30
    go_wp2_with fail
    go_ret
    exact ⟨by rw [HE.out]; rfl, Fr.refl _ _⟩

theorem conv_byte (w : World) (b : Nat) (a : UInt8) (x : Int) (hx : x = a.toNat) (hc : w.cell? ⟨b, 0, none⟩ = some (.int .u8 x)) : (convert 47 9 (.slice (some ⟨b, 0, none⟩) 1 1)).run Try.prog w = .ok (.string ⟨#[a]⟩) w := by
  subst hx
  refine run_convert_bytes_back (P := Try.prog) _ 47 9 5 ⟨b, 0, none⟩ 1 [a] Try.underlying47 Try.underlying5 Try.underlying9 (fun j hj => ?_)
  match j, hj with
  | 0, _ => exact hc
set_option maxHeartbeats 2000000 in
set_option maxRecDepth 100000 in
theorem refBytes21_any (a : Option Addr) (cap : Nat) (l : List Lbl) (w : World) (h : SlA w a l.length cap (strVs l)) (hm : mayL l = true) :
    Calls Try.prog 35 #[.slice a l.length cap] w fun e w' => e = .returned (.string ⟨(bytesL l).toArray⟩) ∧ Gr w w' := by
  have hle := h.le
  have hmx := h.max
  have H := Lib.hid h
  have HX := Lib.hid ((mayL_iff l).1 hm).1
  have hsz := ((mayL_iff l).1 hm).2
  clear h hm
  go_enter Try.func35, Try.ntmps35
  go_wp2_with fail
  go_loopw [3, 4] (fun sv iv wr => ∃ k : Nat, iv = .int .i64 k ∧ k ≤ l.length ∧ sv = .string ⟨(bytesL (l.take k)).toArray⟩ ∧ Gr w wr) (fun _ iv _ => l.length - (intOf iv).toNat)
  case atStart => exact ⟨0, rfl, Nat.zero_le _, rfl, Fr.refl _ _⟩
  case round =>
    obtain ⟨k, rfl, hk, rfl, fr⟩ := hrel
    by_cases hlt : k < l.length
    · obtain ⟨b, o, rfl, hc⟩ := (H.out.keep fr (fun _ _ h => h)).at1 k hlt
      have hx := HX.out l[k] (List.getElem_mem hlt)
      have HB := Lib.hid (bytesL_take l k hlt)
      have FR := Lib.hid fr
      generalize l[k] = x at *
      have e0 := lblB_app x
      have e1 := app_lbl (bytesL (l.take k)) x
      have zx := mk_size x
      have hcv := conv_byte ((wr.alloc (.cells #[.int .u8 x.length] 5)).drew) wr.heap.size (UInt8.ofNat x.length) (x.length : Int) (by rw [UInt8.toNat_ofNat']; omega) (by show (wr.alloc _).cell? _ = _; rw [World.cell?_alloc_at _ _ _ _ rfl]; rfl)
      have z4 : (bytesL (l.take k)).length ≤ 254 := by rw [lbSize_bytes]; have := lbSize_cut l k; omega
      have z1 := mk_size (bytesL (l.take k))
      have z2 := mk_size (lblB x)
      have z3 := lblB_length x
      clear fr
      go_wp2_with fail
      haveI : Nonempty (WC (Fr (fun _ => False) wr)) := ⟨⟨wr, Fr.refl _ _⟩⟩
      have y0 : ∀ z : WC (Fr (fun _ => False) wr), z.val.cell? ⟨b, o + k, none⟩ = some (strV x) := fun z => z.ok.cell hc (fun h => h)
      refine wp_region_plan [7, 8] (Plan.seq (List.range 16) .done) (fun w' => ∃ z : WC (Fr (fun _ => False) wr), w' = z.val) (by kernel_rfl) (by kernel_rfl) (fun c a w d v h => by cases d <;> exact h) (fun c a w d v h => by cases d <;> exact h) ⟨⟨wr.drew, (Fr.refl _ _).drew⟩, rfl⟩ ?_
      simp only [Plan.seq, List.range, List.range.loop, List.foldr]
      repeat (refine wpV_q (by simp only [List.getElem?_toArray, List.getElem?_cons_succ, List.getElem?_cons_zero] <;> rfl) (by rfl) (by rfl) ?_; go_big_quiet_step (fail); refine wpQuiet_nil ?_)
      refine wpV_e (by simp only [List.getElem?_toArray, List.getElem?_cons_succ, List.getElem?_cons_zero] <;> rfl) (by rfl) ?_
      go_wp2_with fail
      have f2 : Gr wr ((wr.alloc (.cells #[.int .u8 x.length] 5)).drew) := ((Fr.refl _ _).alloc _).drew
      refine ⟨⟨⟨_, f2⟩, rfl⟩, ?_⟩
      refine wpV_e (by simp only [List.getElem?_toArray, List.getElem?_cons_succ, List.getElem?_cons_zero] <;> rfl) (by rfl) ?_
      go_wp2_with fail
      refine ⟨⟨⟨_, f2⟩, rfl⟩, ?_⟩
      repeat (refine wpV_q (by simp only [List.getElem?_toArray, List.getElem?_cons_succ, List.getElem?_cons_zero] <;> rfl) (by rfl) (by rfl) ?_; go_big_quiet_step (fail); refine wpQuiet_nil ?_)
      refine wpV_done ?_
      have F2 := Lib.hid (Gr.trans FR.out f2)
      clear y0 f2
      go_wp2_with fail
      go_roundw
      case rel => exact ⟨k + 1, by go_num, by omega, by rw [HB.out], F2.out⟩
      case measure => simp [intOf]; omega
    · obtain rfl : k = l.length := by omega
      rw [List.take_length]
      go_wp2_with fail
      go_ret
      exact ⟨rfl, fr⟩
end Go.Proofs.Ytkclgemkeifbaaa
