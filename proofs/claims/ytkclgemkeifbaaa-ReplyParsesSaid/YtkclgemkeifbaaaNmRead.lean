/-
  Package name: Read; the reference's read.
-/
import Derived.Test.YtkclgemkeifbaaaNmRef
namespace Go.Proofs.Ytkclgemkeifbaaa
open Go.RowKit Go.Proofs

theorem Try.info21 : (Try.prog.info? 9).map (fun i => (i.zero, i.size, i.bytes)) = some (some (.string ByteArray.empty), 1, 16) := by kernel_rfl
theorem index_bt (l : List UInt8) (k : Nat) (hk : k < l.length) (n : Nat) (hn : n = bt l k) (w : World) : (Instr.index 9 (.string ⟨l.toArray⟩) (.int .i64 k)).run Try.prog w = .ok (.int .u8 n) w := by
  rw [run_index_string (h := Try.underlying9), dif_pos ⟨by omega, by rw [mk_size]; omega⟩]
  subst hn
  have : bt l k = l[k].toNat := by unfold bt; rw [List.getD_eq_getElem?_getD, List.getElem?_eq_getElem hk]; rfl
  rw [this]
  rfl
theorem ptr_or (d b : Nat) (z : Int) (hz : z = (d : Int) * 256) (hd : d < 64) (hb : b < 256) : bits .or .i64 z (b : Int) = ((d * 256 + b : Nat) : Int) := by
  have e : z = ((d * 256 : Nat) : Int) := by rw [hz]; simp
  have h1 : d * 256 ||| b = d * 256 + b := by
    rw [Nat.mul_comm]; exact (Nat.two_pow_add_eq_or_of_lt (i := 8) hb d).symm
  rw [e]
  show IntKind.i64.wrap ((BitVec.ofInt 64 _ ||| BitVec.ofInt 64 _).toNat : Int) = _
  rw [BitVec.ofInt_natCast, BitVec.ofInt_natCast, BitVec.toNat_or, BitVec.toNat_ofNat, BitVec.toNat_ofNat, Nat.mod_eq_of_lt (by omega), Nat.mod_eq_of_lt (by omega), h1]
  exact IntWalk.i64_in _ ⟨by omega, by omega⟩

/-- what name.Read answers -/
def NmRd (r : NRes) (w : World) (e : Ending) (w' : World) : Prop :=
  Gr w w' ∧ match r with
  | .err c => e = .returned (.tuple #[.slice none 0 0, .int .i64 0, .int .i64 c])
  | .ok l k => ∃ v, e = .returned (.tuple #[v, .int .i64 k, .int .i64 0]) ∧ w'.ownsRow w.heap.size 9 1 v l.length (strVs l)
def EndIs (z : Int) (n : Nat) : Option Nat → Prop
  | none => z = -1
  | some k => z = k ∧ k ≤ n

structure RdSt (msg : List UInt8) (R : NRes) (W : World) (p bound : Nat) (l : List Lbl) (q : Option Nat) (z : Int) (v : Value) (w : World) : Prop where
  row : w.ownsRow W.heap.size 9 1 v l.length (strVs l)
  fr : Gr W w
  may : mayL l = true
  res : (rd msg p bound l).fin q = R
  fin : EndIs z msg.length q

theorem fin_err {msg : List UInt8} {R : NRes} {W : World} {p bound : Nat} {l : List Lbl} {q : Option Nat} {z c : Int} {v : Value} {w : World} (h : RdSt msg R W p bound l q z v w) (hr : rd msg p bound l = .err c) : R = .err c := by
  rw [← h.res, hr]; cases q <;> rfl

set_option maxHeartbeats 4000000 in
set_option maxRecDepth 100000 in
theorem nmRead_any (msg : List UInt8) (at0 : Nat) (h0 : at0 ≤ msg.length) (hmsg : msg.length ≤ 100000) (W : World) :
    Calls Try.prog 100 #[.string ⟨msg.toArray⟩, .int .i64 at0] W (NmRd (rd msg at0 at0 []) W) := by
  obtain ⟨i0, hi1, hi2, hi3, hi4⟩ := info_parts Try.info21
  have zm := mk_size msg
  obtain ⟨R, hR⟩ : ∃ R, R = rd msg at0 at0 [] := ⟨_, rfl⟩
  rw [← hR]
  have S0 := Lib.hid (show RdSt msg R W at0 at0 [] none (-1) (.slice none 0 0) W from ⟨World.ownsRow_nil _ _ _ _, Fr.refl _ _, mayL_nil, hR.symm, rfl⟩)
  clear hR
  have d1 : decide ((at0 : Int) < 0) = false := decide_eq_false (by omega)
  have d2 : decide (msg.length < at0) = false := decide_eq_false (by omega)
  have d3 : ¬ ((at0 : Int) < 0) := by omega
  have d4 : ¬ (msg.length < at0) := by omega
  go_enter Try.func100, Try.ntmps100
  go_wp2_with fail
  go_loopw [1, 7, 8, 9] (fun pv lv ev bv wr => ∃ (p bound : Nat) (l : List Lbl) (q : Option Nat) (z : Int), pv = .int .i64 p ∧ ev = .int .i64 z ∧ bv = .int .i64 bound ∧ p ≤ msg.length ∧ bound ≤ msg.length ∧ RdSt msg R W p bound l q z lv wr) (fun pv _ _ bv _ => rdM msg (intOf pv).toNat (intOf bv).toNat)
  case atStart => exact ⟨at0, at0, [], none, -1, rfl, rfl, rfl, h0, h0, S0.out⟩
  case round =>
    clear S0
    obtain ⟨p, bound, l, q, z, rfl, rfl, rfl, hp, hb, st⟩ := hrel
    have ST := Lib.hid st
    clear st
    by_cases hlt : p < msg.length
    · obtain ⟨n, hn⟩ : ∃ n, n = bt msg p := ⟨_, rfl⟩
      have hn256 : n < 256 := by rw [hn]; exact bt_lt _ _
      have i1 := fun w => index_bt msg p hlt n hn w
      have HN := Lib.hid hn
      clear hn
      by_cases hn0 : n = 0
      · subst hn0
        have HE : Hid (R = (NRes.ok l (p + 1)).fin q) := Lib.hid (by rw [← ST.out.res, rd_end hlt HN.out.symm])
        have hf := ST.out.fin
        cases q with
        | none =>
          obtain rfl : z = -1 := hf
          go_wp2_with fail
          refine bodyPost_ret (v := .tuple #[u7, .int .i64 ((p : Int) + 1), .int .i64 0]) (by simp [results, Try.results100, go_sem]) rfl ?_
          unfold NmRd
          rw [HE.out]
          exact ⟨ST.out.fr, u7, rfl, ST.out.row⟩
        | some k =>
          obtain ⟨rfl, hk⟩ : z = k ∧ k ≤ msg.length := hf
          go_wp2_with fail
          refine bodyPost_ret (v := .tuple #[u7, .int .i64 k, .int .i64 0]) (by simp [results, Try.results100, go_sem]) rfl ?_
          unfold NmRd
          rw [HE.out]
          exact ⟨ST.out.fr, u7, rfl, ST.out.row⟩
      · by_cases h192 : 192 ≤ n
        · by_cases h1 : p + 1 < msg.length
          · obtain ⟨b, hbd⟩ : ∃ b, b = bt msg (p + 1) := ⟨_, rfl⟩
            have hb256 : b < 256 := by rw [hbd]; exact bt_lt _ _
            have i2 : ∀ w, (Instr.index 9 (.string ⟨msg.toArray⟩) (.int .i64 ((p : Int) + 1))).run Try.prog w = .ok (.int .u8 b) w := fun w => index_bt msg (p + 1) h1 b hbd w
            obtain ⟨to, hto⟩ : ∃ to, to = (n - 192) * 256 + b := ⟨_, rfl⟩
            have hto' : to = (bt msg p - 192) * 256 + bt msg (p + 1) := by rw [hto, hbd, HN.out]
            have hor : bits .or .i64 (((n : Int) - 192) * 256) (b : Int) = (to : Int) := by rw [hto]; exact ptr_or (n - 192) b _ (by omega) (by omega) hb256
            have HTO := Lib.hid hto'
            have hto6 : to ≤ 17000 := by omega
            clear hto hbd hto'
            by_cases h2 : to < bound
            · have hf := ST.out.fin
              have hres := ST.out.res
              rw [rd_ptr2 hlt (by rw [← HN.out]; exact h192) h1 (by rw [← HTO.out]; exact h2), ← HTO.out] at hres
              have HM : Hid (rdM msg to to < rdM msg p bound) := Lib.hid (rdM_ptr h2)
              cases q with
              | none =>
                obtain rfl : z = -1 := hf
                have ST2 : Hid (RdSt msg R W to to l (some (p + 2)) ((p : Int) + 1 + 1) u7 wr) := Lib.hid ⟨ST.out.row, ST.out.fr, ST.out.may, by rw [← hres]; rfl, by omega, by omega⟩
                clear hres
                go_wp2_with fail
                go_roundw
                case rel => exact ⟨to, to, l, some (p + 2), _, rfl, rfl, rfl, by omega, by omega, ST2.out⟩
                case measure => exact HM.out
              | some k =>
                obtain ⟨rfl, hk⟩ : z = k ∧ k ≤ msg.length := hf
                have ST2 : Hid (RdSt msg R W to to l (some k) k u7 wr) := Lib.hid ⟨ST.out.row, ST.out.fr, ST.out.may, by rw [← hres, NRes.fin_fin], rfl, hk⟩
                clear hres
                go_wp2_with fail
                go_roundw
                case rel => exact ⟨to, to, l, some k, _, rfl, rfl, rfl, by omega, by omega, ST2.out⟩
                case measure => exact HM.out
            · have HE := Lib.hid (fin_err ST.out (rd_ptr1 hlt (by rw [← HN.out]; exact h192) h1 (by rw [← HTO.out]; omega)))
              go_wp2_with fail
              refine bodyPost_ret (v := .tuple #[.slice none 0 0, .int .i64 0, .int .i64 10]) (by simp [results, Try.results100, go_sem]) rfl ?_
              unfold NmRd
              rw [HE.out]
              exact ⟨ST.out.fr, rfl⟩
          · have HE := Lib.hid (fin_err ST.out (rd_ptr0 hlt (by rw [← HN.out]; exact h192) (by omega)))
            go_wp2_with fail
            refine bodyPost_ret (v := .tuple #[.slice none 0 0, .int .i64 0, .int .i64 2]) (by simp [results, Try.results100, go_sem]) rfl ?_
            unfold NmRd
            rw [HE.out]
            exact ⟨ST.out.fr, rfl⟩
        · by_cases h63 : 63 < n
          · have HE := Lib.hid (fin_err ST.out (rd_form hlt (by rw [← HN.out]; omega) (by rw [← HN.out]; exact h63)))
            go_wp2_with fail
            refine bodyPost_ret (v := .tuple #[.slice none 0 0, .int .i64 0, .int .i64 4]) (by simp [results, Try.results100, go_sem]) rfl ?_
            unfold NmRd
            rw [HE.out]
            exact ⟨ST.out.fr, rfl⟩
          · by_cases h3 : p + 1 + n ≤ msg.length
            · obtain ⟨x, hx⟩ : ∃ x, x = (msg.drop (p + 1)).take n := ⟨_, rfl⟩
              have he : (ByteArray.mk msg.toArray).extract (p + 1) (p + 1 + n) = ⟨x.toArray⟩ := by rw [mk_extract, hx, List.drop_take, show p + 1 + n - (p + 1) = n by omega]
              have HX : Hid (x = (msg.drop (p + 1)).take (bt msg p)) := Lib.hid (by rw [hx, HN.out])
              have hl := mayL_len ST.out.may
              have hsz := ST.out.fr.size
              have h3i : (n : Int) ≤ (msg.length : Int) - ((p : Int) + 1) := by omega
              clear hx
              go_wp2_with (at_builtin; refine wpList_append_own _ rfl _ _ 65 rfl W.heap.size 9 i0 (.string ByteArray.empty) 1 16 Try.underlying65 hi1 hi2 hi3 hi4 rfl (by decide) _ _ _ rfl (ST.out.row.alloc _) ⟨wr.heap.size, 0, none⟩ 1 1 [strV x] rfl rfl (news_one _ _ _) (one_one _ rfl) (by unfold maxLen; omega) (by omega) (by rw [World.size_alloc]; omega) ?_)
              intro v8 w8 ho hg _
              obtain ⟨a8, c8, rfl, hs8, -⟩ := SlA.of_own ho
              have f8 : Gr W w8 := (ST.out.fr.alloc _).grown hg (fun q hq => .inr ((ST.out.row.lt q hq).1))
              have hlen : (l ++ [x]).length = l.length + 1 := by simp
              have C1 := Lib.hid (nmMay_any a8 c8 (l ++ [x]) w8 (by rw [hlen]; simpa using hs8))
              rw [hlen] at C1
              clear hs8 hg
              cases hm : mayL (l ++ [x])
              · have HE := Lib.hid (fin_err ST.out (rd_bad hlt (by rw [← HN.out]; omega) (by rw [← HN.out]; omega) (by rw [← HN.out]; exact h3) (by rw [← HX.out]; exact hm)))
                rw [hm] at C1
                have F8 := Lib.hid f8
                clear hm f8 hlen ho
                go_wp2_with fail
                refine C1.out.mono ?_
                rintro e w9 ⟨rfl, rfl⟩
                go_wp2_with fail
                refine bodyPost_ret (v := .tuple #[.slice none 0 0, .int .i64 0, .int .i64 9]) (by simp [results, Try.results100, go_sem]) rfl ?_
                unfold NmRd
                rw [HE.out]
                exact ⟨F8.out, rfl⟩
              · have ST2 : Hid (RdSt msg R W (p + 1 + n) bound (l ++ [x]) q z (.slice a8 (l.length + 1) c8) w8) := Lib.hid ⟨by rw [hlen]; simpa using ho, f8, hm, by rw [← ST.out.res, rd_lbl hlt (by rw [← HN.out]; omega) (by rw [← HN.out]; omega) (by rw [← HN.out]; exact h3) (by rw [← HX.out]; exact hm), ← HX.out, ← HN.out], ST.out.fin⟩
                rw [hm] at C1
                have HM : Hid (rdM msg (p + 1 + n) bound < rdM msg p bound) := Lib.hid (rdM_lbl hlt)
                clear hm f8 hlen ho
                go_wp2_with fail
                refine C1.out.mono ?_
                rintro e w9 ⟨rfl, rfl⟩
                go_wp2_with fail
                go_roundw
                case rel => exact ⟨p + 1 + n, bound, l ++ [x], q, z, by go_num, rfl, rfl, by omega, by omega, ST2.out⟩
                case measure => exact HM.out
            · have HE := Lib.hid (fin_err ST.out (rd_cut hlt (by rw [← HN.out]; omega) (by rw [← HN.out]; omega) (by rw [← HN.out]; omega)))
              have h3i : (msg.length : Int) - ((p : Int) + 1) < (n : Int) := by omega
              go_wp2_with fail
              refine bodyPost_ret (v := .tuple #[.slice none 0 0, .int .i64 0, .int .i64 2]) (by simp [results, Try.results100, go_sem]) rfl ?_
              unfold NmRd
              rw [HE.out]
              exact ⟨ST.out.fr, rfl⟩
    · have HE := Lib.hid (fin_err ST.out (rd_short (by omega)))
      go_wp2_with fail
      refine bodyPost_ret (v := .tuple #[.slice none 0 0, .int .i64 0, .int .i64 2]) (by simp [results, Try.results100, go_sem]) rfl ?_
      unfold NmRd
      rw [HE.out]
      exact ⟨ST.out.fr, rfl⟩
end Go.Proofs.Ytkclgemkeifbaaa
