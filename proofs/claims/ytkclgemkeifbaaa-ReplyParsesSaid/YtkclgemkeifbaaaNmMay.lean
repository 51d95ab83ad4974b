/-
  Package name: may, label, Encode; the reference's May, Bytes, Same.
-/
import Derived.Test.YtkclgemkeifbaaaNmSpec
import Derived.Test.YtkclgemkeifbaaaGr
namespace Go.Proofs.Ytkclgemkeifbaaa
open Go.RowKit Go.Proofs

set_option maxHeartbeats 1000000 in
set_option maxRecDepth 100000 in
theorem nmMay_any (a : Option Addr) (cap : Nat) (l : List Lbl) (w : World) (h : SlA w a l.length cap (strVs l)) :
    Calls Try.prog 120 #[.slice a l.length cap] w fun e w' => e = .returned (.bool (mayL l)) ∧ w = w' := by
  have hle := h.le
  have hmx := h.max
  have H := Lib.hid h
  obtain ⟨r, hr⟩ : ∃ r, r = mayL l := ⟨_, rfl⟩
  rw [← hr]
  have HR := Lib.hid hr
  clear h hr
  go_enter Try.func120, Try.ntmps120
  go_wp2_with fail
  go_loopw [3, 8] (fun nv iv wr => ∃ k n : Nat, iv = .int .i64 k ∧ nv = .int .i64 n ∧ k ≤ l.length ∧ n ≤ 400 ∧ n = lbSize (l.take k) ∧ Hid ((l.take k).all lblOk = true) ∧ w = wr) (fun _ iv _ => l.length - (intOf iv).toNat)
  case atStart => exact ⟨0, 0, rfl, rfl, Nat.zero_le _, by omega, rfl, Lib.hid rfl, rfl⟩
  case round =>
    obtain ⟨k, n, rfl, rfl, hk, hn, hs, HA, rfl⟩ := hrel
    have HS := Lib.hid hs
    clear hs
    by_cases hlt : k < l.length
    · obtain ⟨b, o, rfl, hc⟩ := H.out.at1 k hlt
      have HT := Lib.hid (lbSize_take l k hlt)
      have HM := Lib.hid (fun h => may_take hlt HA.out h)
      have HB := Lib.hid (fun h => may_bad hlt h)
      generalize l[k] = x at *
      have zx := mk_size x
      by_cases hx : lblOk x = true
      · have hx2 := (lblOk_iff x).1 hx
        by_cases h254 : n ≤ 254
        · have hi : x.isEmpty = false := by cases x <;> simp_all
          have HA2 := Lib.hid (HM.out hx)
          have HN2 : Hid (n + (1 + x.length) = lbSize (l.take (k + 1))) := Lib.hid (by rw [HT.out, HS.out])
          clear hx HM HB HA HS HT
          go_wp2_with fail
          go_roundw
          case rel => exact ⟨k + 1, n + (1 + x.length), by go_num, by go_num, by omega, by omega, HN2.out, HA2, trivial⟩
          case measure => simp [intOf]; omega
        · have hi : x.isEmpty = false := by cases x <;> simp_all
          have HE : Hid (r = false) := Lib.hid (by rw [HR.out]; exact may_much (k := k) (by have := HS.out; omega))
          clear hx HM HB HA HS HT
          go_wp2_with fail
          go_ret
          exact ⟨by rw [HE.out]; rfl, rfl⟩
      · have hx' := eq_false_of_ne_true hx
        have HE : Hid (r = false) := Lib.hid (by rw [HR.out]; exact HB.out hx')
        by_cases hi0 : x = []
        · subst hi0
          clear hx hx' HM HB HA HS HT
          go_wp2_with fail
          go_ret
          exact ⟨by rw [HE.out]; rfl, rfl⟩
        · have hi : x.isEmpty = false := by cases x <;> simp_all
          have h63 : (63 : Int) < (x.length : Int) := by
            have h1 : ¬ (1 ≤ x.length ∧ x.length ≤ 63) := fun h => hx ((lblOk_iff x).2 h)
            have h2 : 0 < x.length := List.length_pos_iff.2 hi0
            omega
          clear hx hx' HM HB HA HS HT hi0
          go_wp2_with fail
          go_ret
          exact ⟨by rw [HE.out]; rfl, rfl⟩
    · have HE : Hid (r = decide ((n : Int) ≤ 254)) := Lib.hid (by rw [HR.out, may_end (by omega) HA.out, ← HS.out]; simp only [decide_eq_decide]; omega)
      clear HA HS
      go_wp2_with fail
      go_ret
      exact ⟨by rw [HE.out]; rfl, rfl⟩

theorem conv_one21 (w : World) (a : UInt8) (x : Int) (hx : x = a.toNat) : (convert 47 9 (.slice (some ⟨w.heap.size, 0, none⟩) 1 1)).run Try.prog (w.alloc (.cells #[.int .u8 x] 5)) = .ok (.string ⟨#[a]⟩) (w.alloc (.cells #[.int .u8 x] 5)) := by
  subst hx
  refine run_convert_bytes_back (P := Try.prog) _ 47 9 5 ⟨w.heap.size, 0, none⟩ 1 [a] Try.underlying47 Try.underlying5 Try.underlying9 (fun j hj => ?_)
  match j, hj with
  | 0, _ => rw [Addr.add_lit, Nat.add_zero, World.cell?_alloc_at _ _ _ _ rfl]; rfl
theorem lblB_app (x : Lbl) : (⟨#[UInt8.ofNat x.length]⟩ : ByteArray) ++ ⟨x.toArray⟩ = ⟨(lblB x).toArray⟩ := by
  apply ByteArray.ext; simp [lblB]

set_option maxHeartbeats 1000000 in
set_option maxRecDepth 100000 in
theorem nmLabel_any (x : Lbl) (w : World) (hx : x.length ≤ 255) :
    Calls Try.prog 121 #[strV x] w fun e w' => e = .returned (.string ⟨(lblB x).toArray⟩) ∧ Gr w w' := by
  have zx := mk_size x
  have hc := conv_one21 w (UInt8.ofNat x.length) (x.length : Int) (by rw [UInt8.toNat_ofNat']; omega)
  have he := lblB_app x
  go_enter Try.func121, Try.ntmps121
  go_wp2_with fail
  go_ret
  exact ⟨rfl, (Fr.refl _ _).alloc _⟩

set_option maxHeartbeats 1000000 in
set_option maxRecDepth 100000 in
theorem refMay21_any (a : Option Addr) (cap : Nat) (l : List Lbl) (w : World) (h : SlA w a l.length cap (strVs l)) :
    Calls Try.prog 33 #[.slice a l.length cap] w fun e w' => e = .returned (.bool (mayL l)) ∧ w = w' := by
  have hle := h.le
  have hmx := h.max
  have H := Lib.hid h
  obtain ⟨r, hr⟩ : ∃ r, r = mayL l := ⟨_, rfl⟩
  rw [← hr]
  have HR := Lib.hid hr
  clear h hr
  go_enter Try.func33, Try.ntmps33
  go_wp2_with fail
  go_loopw [3, 4] (fun nv iv wr => ∃ k n : Nat, iv = .int .i64 k ∧ nv = .int .i64 n ∧ k ≤ l.length ∧ n ≤ 400 ∧ n = lbSize (l.take k) ∧ Hid ((l.take k).all lblOk = true) ∧ w = wr) (fun _ iv _ => l.length - (intOf iv).toNat)
  case atStart => exact ⟨0, 0, rfl, rfl, Nat.zero_le _, by omega, rfl, Lib.hid rfl, rfl⟩
  case round =>
    obtain ⟨k, n, rfl, rfl, hk, hn, hs, HA, rfl⟩ := hrel
    have HS := Lib.hid hs
    clear hs
    by_cases hlt : k < l.length
    · by_cases h254 : n ≤ 254
      · obtain ⟨b, o, rfl, hc⟩ := H.out.at1 k hlt
        have HT := Lib.hid (lbSize_take l k hlt)
        have HM := Lib.hid (fun h => may_take hlt HA.out h)
        have HB := Lib.hid (fun h => may_bad hlt h)
        generalize l[k] = x at *
        have zx := mk_size x
        by_cases hx : lblOk x = true
        · have hx2 := (lblOk_iff x).1 hx
          have HA2 := Lib.hid (HM.out hx)
          have HN2 : Hid (n + (x.length + 1) = lbSize (l.take (k + 1))) := Lib.hid (by rw [HT.out, ← HS.out]; omega)
          clear hx HM HB HA HS HT
          go_wp2_with fail
          go_roundw
          case rel => exact ⟨k + 1, n + (x.length + 1), by go_num, by go_num, by omega, by omega, HN2.out, HA2, trivial⟩
          case measure => simp [intOf]; omega
        · have hx' := eq_false_of_ne_true hx
          have HE : Hid (r = false) := Lib.hid (by rw [HR.out]; exact HB.out hx')
          have h1 : ¬ (1 ≤ x.length ∧ x.length ≤ 63) := fun h => hx ((lblOk_iff x).2 h)
          clear hx hx' HM HB HA HS HT
          by_cases h0 : x.length < 1
          · clear h1
            go_wp2_with fail
            go_ret
            exact ⟨by rw [HE.out]; rfl, rfl⟩
          · have h63 : 63 < x.length := by omega
            clear h1
            go_wp2_with fail
            go_ret
            exact ⟨by rw [HE.out]; rfl, rfl⟩
      · have HE : Hid (r = decide ((n : Int) ≤ 254)) := Lib.hid (by rw [HR.out, may_much (k := k) (by have := HS.out; omega)]; symm; rw [decide_eq_false_iff_not]; omega)
        clear HA HS
        go_wp2_with fail
        go_ret
        exact ⟨by rw [HE.out]; rfl, rfl⟩
    · have HE : Hid (r = decide ((n : Int) ≤ 254)) := Lib.hid (by rw [HR.out, may_end (by omega) HA.out, ← HS.out]; simp only [decide_eq_decide]; omega)
      clear HA HS
      go_wp2_with fail
      go_ret
      exact ⟨by rw [HE.out]; rfl, rfl⟩

set_option maxHeartbeats 1000000 in
set_option maxRecDepth 100000 in
theorem nmPlace_nil (s : ByteArray) (w : World) : Calls Try.prog 122 #[.pointer none, .string s] w fun e w' => e = .returned (.tuple #[.int .i64 0, .bool false]) ∧ w = w' := by
  go_enter Try.func122, Try.ntmps122
  go_wp2_with fail
  go_ret2
  exact ⟨rfl, rfl⟩
set_option maxHeartbeats 1000000 in
set_option maxRecDepth 100000 in
theorem nmNote_nil (s : ByteArray) (n : Int) (w : World) : Calls Try.prog 123 #[.pointer none, .string s, .int .i64 n] w fun e w' => e = .returned (.tuple #[]) ∧ w = w' := by
  go_enter Try.func123, Try.ntmps123
  go_wp2_with fail
  refine (nmPlace_nil _ _).mono ?_
  rintro e w' ⟨rfl, rfl⟩
  go_wp2_with fail
  exact bodyPost_ret (v := .tuple #[]) (by simp [results, Try.results123, go_sem]) rfl ⟨rfl, rfl⟩

theorem app_lbl (m : List UInt8) (x : Lbl) : (⟨m.toArray⟩ : ByteArray) ++ ⟨(lblB x).toArray⟩ = ⟨(m ++ lblB x).toArray⟩ := by apply ByteArray.ext; simp
theorem app_zero (m : List UInt8) : (⟨m.toArray⟩ : ByteArray) ++ ⟨#[0]⟩ = ⟨(m ++ [0]).toArray⟩ := by apply ByteArray.ext; simp
theorem ext_all (m : List UInt8) (k : Nat) : (ByteArray.mk m.toArray).extract k m.length = ⟨(m.drop k).toArray⟩ := by rw [mk_extract, List.take_length]
def NmAdd (m : List UInt8) (l : List Lbl) (w : World) (e : Ending) (w' : World) : Prop :=
  e = .returned (.tuple #[.string ⟨(if mayL l = true then m ++ bytesL l ++ [0] else []).toArray⟩, .int .i64 (if mayL l = true then 0 else 9)]) ∧ Gr w w'

set_option maxHeartbeats 2000000 in
set_option maxRecDepth 100000 in
theorem nmAdd_any (m : List UInt8) (a : Option Addr) (cap : Nat) (l : List Lbl) (w : World) (h : SlA w a l.length cap (strVs l)) (hm : m.length ≤ 100000) :
    Calls Try.prog 105 #[.pointer none, .string ⟨m.toArray⟩, .slice a l.length cap] w (NmAdd m l w) := by
  have hle := h.le
  have hmx := h.max
  have H := Lib.hid h
  have C1 := Lib.hid (nmMay_any a cap l w h)
  clear h
  cases hmay : mayL l
  · have HM := Lib.hid hmay
    rw [hmay] at C1
    clear hmay
    go_enter Try.func105, Try.ntmps105
    go_wp2_with fail
    refine C1.out.mono ?_
    rintro e w1 ⟨rfl, rfl⟩
    go_wp2_with fail
    go_ret2
    unfold NmAdd
    rw [HM.out]
    exact ⟨rfl, Fr.refl _ _⟩
  · have HM := Lib.hid hmay
    rw [hmay] at C1
    have hl := mayL_len hmay
    have HX := Lib.hid ((mayL_iff l).1 hmay).1
    have hsz := ((mayL_iff l).1 hmay).2
    clear hmay
    go_enter Try.func105, Try.ntmps105
    go_wp2_with fail
    refine C1.out.mono ?_
    rintro e w1 ⟨rfl, rfl⟩
    clear C1
    go_wp2_with fail
    go_loopw [8, 20] (fun sv iv wr => ∃ k : Nat, iv = .int .i64 k ∧ k ≤ l.length ∧ sv = .string ⟨(bytesL (l.take k)).toArray⟩ ∧ Gr w wr) (fun _ iv _ => l.length - (intOf iv).toNat)
    case atStart => exact ⟨0, rfl, Nat.zero_le _, rfl, Fr.refl _ _⟩
    case round =>
      obtain ⟨k, rfl, hk, rfl, fr⟩ := hrel
      by_cases hlt : k < l.length
      · obtain ⟨b, o, rfl, hc⟩ := (H.out.keep fr (fun _ _ h => h)).at1 k hlt
        have hx := HX.out l[k] (List.getElem_mem hlt)
        have HB := Lib.hid (bytesL_take l k hlt)
        have FR := Lib.hid fr
        generalize l[k] = x at *
        have C2 := Lib.hid (nmLabel_any x wr (by omega))
        have e1 := app_lbl (bytesL (l.take k)) x
        have z1 := mk_size (bytesL (l.take k))
        have z2 := mk_size (lblB x)
        have z3 := lblB_length x
        have z4 : (bytesL (l.take k)).length ≤ 254 := by rw [lbSize_bytes]; have := lbSize_cut l k; omega
        clear fr
        go_wp2_with fail
        refine C2.out.mono ?_
        rintro e w2 ⟨rfl, f2⟩
        have F2 := Lib.hid (Gr.trans FR.out f2)
        clear f2 FR C2
        go_wp2_with fail
        go_roundw
        case rel => exact ⟨k + 1, by go_num, by omega, by rw [HB.out], F2.out⟩
        case measure => simp [intOf]; omega
      · obtain rfl : k = l.length := by omega
        rw [List.take_length]
        have F1 := Lib.hid fr
        clear fr
        generalize wr = w1 at *
        go_wp2_with fail
        go_loopw [1, 8, 31] (fun mv sv iv wr => ∃ k : Nat, iv = .int .i64 k ∧ k ≤ l.length ∧ mv = .string ⟨(m ++ bytesL (l.take k)).toArray⟩ ∧ sv = .string ⟨(bytesL (l.drop k)).toArray⟩ ∧ Gr w1 wr) (fun _ _ iv _ => l.length - (intOf iv).toNat)
        case atStart => exact ⟨0, rfl, Nat.zero_le _, by simp [bytesL], rfl, Fr.refl _ _⟩
        case round =>
          obtain ⟨k, rfl, hk, rfl, rfl, fr⟩ := hrel
          have z4 : (bytesL (l.take k)).length ≤ 254 := by rw [lbSize_bytes]; have := lbSize_cut l k; omega
          have z5 : (bytesL (l.drop k)).length ≤ 254 := by rw [lbSize_bytes]; have := lbSize_cut l k; omega
          by_cases hlt : k < l.length
          · obtain ⟨b, o, rfl, hc⟩ := (H.out.keep (Gr.trans F1.out fr) (fun _ _ h => h)).at1 k hlt
            have hx := HX.out l[k] (List.getElem_mem hlt)
            have HB := Lib.hid (bytesL_take l k hlt)
            have hd := bytesL_drop l k hlt
            have FR := Lib.hid fr
            generalize l[k] = x at *
            have z2 := mk_size (lblB x)
            have z3 := lblB_length x
            have z6 : (bytesL (l.drop (k + 1))).length + (1 + x.length) ≤ (bytesL (l.drop k)).length := by rw [hd, List.length_append, z3]; omega
            have z7 := mk_size (bytesL (l.drop k))
            have HD : Hid ((bytesL (l.drop k)).drop (1 + x.length) = bytesL (l.drop (k + 1))) := Lib.hid (by rw [hd, ← z3, List.drop_left])
            have e2 := ext_all (bytesL (l.drop k)) (1 + x.length)
            have C2 := Lib.hid (nmLabel_any x wr (by omega))
            have e1 := app_lbl (m ++ bytesL (l.take k)) x
            have z1 := mk_size (m ++ bytesL (l.take k))
            have z8 : (m ++ bytesL (l.take k)).length ≤ 200000 := by rw [List.length_append]; omega
            have zx := mk_size x
            clear fr hd
            go_wp2_with fail
            refine (nmPlace_nil _ _).mono ?_
            rintro e w2 ⟨rfl, rfl⟩
            go_wp2_with fail
            refine (nmNote_nil _ _ _).mono ?_
            rintro e w2 ⟨rfl, rfl⟩
            go_wp2_with fail
            refine C2.out.mono ?_
            rintro e w2 ⟨rfl, f2⟩
            have F2 := Lib.hid (Gr.trans FR.out f2)
            clear f2 FR C2
            go_wp2_with fail
            go_roundw
            case rel => exact ⟨k + 1, by go_num, by omega, by rw [HB.out], by rw [e2, HD.out], F2.out⟩
            case measure => simp [intOf]; omega
          · obtain rfl : k = l.length := by omega
            have FR := Lib.hid (Gr.trans F1.out fr)
            have e1 := app_zero (m ++ bytesL l)
            rw [List.take_length] at z4 ⊢
            have z1 := mk_size (m ++ bytesL l)
            have z8 : (m ++ bytesL l).length ≤ 200000 := by rw [List.length_append]; omega
            clear fr
            go_wp2_with fail
            go_ret2
            unfold NmAdd
            rw [HM.out]
            exact ⟨by rw [List.append_assoc]; rfl, FR.out⟩
theorem nmEncode_any (a : Option Addr) (cap : Nat) (l : List Lbl) (w : World) (h : SlA w a l.length cap (strVs l)) :
    Calls Try.prog 67 #[.slice a l.length cap] w (NmAdd [] l w) := by
  have C1 := Lib.hid (nmAdd_any [] a cap l w h (by simp))
  clear h
  unfold NmAdd at C1 ⊢
  generalize (ByteArray.mk (if mayL l = true then [] ++ bytesL l ++ [0] else []).toArray) = s at *
  generalize (if mayL l = true then (0 : Int) else 9) = c at *
  go_enter Try.func67, Try.ntmps67
  go_wp2_with fail
  refine C1.out.mono ?_
  rintro e w1 ⟨rfl, f1⟩
  have F1 := Lib.hid f1
  clear f1
  go_wp2_with fail
  go_ret2
  exact ⟨rfl, F1.out⟩
end Go.Proofs.Ytkclgemkeifbaaa
