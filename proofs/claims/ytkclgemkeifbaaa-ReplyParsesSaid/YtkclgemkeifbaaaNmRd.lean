/-
  The reference's read of names.
-/
import Derived.Test.YtkclgemkeifbaaaNmApp
namespace Go.Proofs.Ytkclgemkeifbaaa
open Go.RowKit Go.Proofs

/-- what the reference's read answers -/
def NmRdA (r : NRes) (w : World) (e : Ending) (w' : World) : Prop :=
  Gr w w' ∧ match r with
  | .err c => e = .returned (.tuple #[.slice none 0 0, .int .i64 0, .int .i64 c])
  | .ok l k => ∃ a cap, e = .returned (.tuple #[.slice a l.length cap, .int .i64 k, .int .i64 0]) ∧ SlA w' a l.length cap (strVs l)

theorem rd_err {msg : List UInt8} {p bound : Nat} {l : List Lbl} {c : Int} (h : rd msg p bound l = .err c) : c = 2 ∨ c = 4 ∨ c = 9 ∨ c = 10 := by
  induction hk : rdM msg p bound using Nat.strongRecOn generalizing p bound l with
  | _ k ih =>
    by_cases h0 : p < msg.length
    · by_cases hz : bt msg p = 0
      · rw [rd_end h0 hz] at h; cases h
      · by_cases h192 : 192 ≤ bt msg p
        · by_cases h1 : p + 1 < msg.length
          · by_cases h2 : (bt msg p - 192) * 256 + bt msg (p + 1) < bound
            · rw [rd_ptr2 h0 h192 h1 h2] at h
              cases hr : rd msg ((bt msg p - 192) * 256 + bt msg (p + 1)) ((bt msg p - 192) * 256 + bt msg (p + 1)) l with
              | err c' =>
                rw [hr] at h
                cases h
                exact ih _ (by rw [← hk]; exact rdM_ptr h2) hr rfl
              | ok m' e' => rw [hr] at h; cases h
            · rw [rd_ptr1 h0 h192 h1 (by omega)] at h; cases h; simp
          · rw [rd_ptr0 h0 h192 (by omega)] at h; cases h; simp
        · by_cases h63 : 63 < bt msg p
          · rw [rd_form h0 (by omega) h63] at h; cases h; simp
          · by_cases h3 : p + 1 + bt msg p ≤ msg.length
            · by_cases h4 : mayL (l ++ [(msg.drop (p + 1)).take (bt msg p)]) = true
              · rw [rd_lbl h0 (by omega) (by omega) h3 h4] at h
                exact ih _ (by rw [← hk]; exact rdM_lbl h0) h rfl
              · rw [rd_bad h0 (by omega) (by omega) h3 (by simpa using h4)] at h; cases h; simp
            · rw [rd_cut h0 (by omega) (by omega) (by omega)] at h; cases h; simp
    · rw [rd_short (by omega)] at h; cases h; simp
theorem NmRdA.of {r : NRes} {w w1 w2 : World} {e : Ending} (f : Gr w w1) (h : NmRdA r w1 e w2) : NmRdA r w e w2 := ⟨Gr.trans f h.1, h.2⟩

set_option maxHeartbeats 4000000 in
set_option maxRecDepth 100000 in
theorem refRd21_any (msg : List UInt8) (hmsg : msg.length ≤ 100000) : ∀ (K p bound : Nat) (l : List Lbl) (a : Option Addr) (cap : Nat) (w : World), rdM msg p bound < K → p ≤ msg.length → bound ≤ msg.length → l.length ≤ 300 → SlA w a l.length cap (strVs l) →
    Calls Try.prog 104 #[.string ⟨msg.toArray⟩, .int .i64 p, .int .i64 bound, .slice a l.length cap] w (NmRdA (if mayL l = true then rd msg p bound l else .err 9) w) := by
  intro K
  induction K with
  | zero => intro p bound l a cap w h; omega
  | succ K ih =>
    intro p bound l a cap w hK hp hb hl hs
    have IH := Lib.hid ih
    clear ih
    have zm := mk_size msg
    have C1 := Lib.hid (refMay21_any a cap l w hs)
    have SL := Lib.hid hs
    clear hs
    cases hmay : mayL l
    · rw [hmay] at C1
      clear hmay
      simp only [Bool.false_eq_true, if_false]
      go_enter Try.func104, Try.ntmps104
      go_wp2_with fail
      refine C1.out.mono ?_
      rintro e w1 ⟨rfl, rfl⟩
      go_wp2_with fail
      refine bodyPost_ret (v := .tuple #[.slice none 0 0, .int .i64 0, .int .i64 9]) (by simp [results, Try.results104, go_sem]) rfl ?_
      exact ⟨Fr.refl _ _, rfl⟩
    · rw [hmay] at C1
      simp only [if_true]
      have HMAY := Lib.hid hmay
      have hl4 := mayL_len hmay
      clear hmay
      by_cases hlt : p < msg.length
      · obtain ⟨n, hn⟩ : ∃ n, n = bt msg p := ⟨_, rfl⟩
        have hn256 : n < 256 := by rw [hn]; exact bt_lt _ _
        have i1 := fun w => index_bt msg p hlt n hn w
        have HN := Lib.hid hn
        clear hn
        by_cases hn0 : n = 0
        · subst hn0
          rw [rd_end hlt HN.out.symm]
          go_enter Try.func104, Try.ntmps104
          go_wp2_with fail
          refine C1.out.mono ?_
          rintro e w1 ⟨rfl, rfl⟩
          go_wp2_with fail
          refine bodyPost_ret (v := .tuple #[.slice a l.length cap, .int .i64 ((p : Int) + 1), .int .i64 0]) (by simp [results, Try.results104, go_sem]) rfl ?_
          exact ⟨Fr.refl _ _, a, cap, rfl, SL.out⟩
        · by_cases h192 : 192 ≤ n
          · by_cases h1 : p + 1 < msg.length
            · obtain ⟨b, hbd⟩ : ∃ b, b = bt msg (p + 1) := ⟨_, rfl⟩
              have hb256 : b < 256 := by rw [hbd]; exact bt_lt _ _
              have i2 : ∀ w, (Instr.index 9 (.string ⟨msg.toArray⟩) (.int .i64 ((p : Int) + 1))).run Try.prog w = .ok (.int .u8 b) w := fun w => index_bt msg (p + 1) h1 b hbd w
              obtain ⟨to, hto⟩ : ∃ to, to = (n - 192) * 256 + b := ⟨_, rfl⟩
              have hto' : to = (bt msg p - 192) * 256 + bt msg (p + 1) := by rw [hto, hbd, HN.out]
              have HTO := Lib.hid hto'
              have hsum : (256 : Int) * (n : Int) + (b : Int) - 49152 = (to : Int) := by omega
              have hto6 : to ≤ 17000 := by omega
              clear hto hbd hto'
              by_cases h2 : to < bound
              · rw [rd_ptr2 hlt (by rw [← HN.out]; exact h192) h1 (by rw [← HTO.out]; exact h2), ← HTO.out]
                have C2 := Lib.hid (IH.out to to l a cap w (by have := rdM_ptr (msg := msg) (p := p) h2; omega) (by omega) (by omega) hl SL.out)
                rw [if_pos HMAY.out] at C2
                have HC : Hid (∀ c, rd msg to to l = .err c → c = 2 ∨ c = 4 ∨ c = 9 ∨ c = 10) := Lib.hid (fun c h => rd_err h)
                generalize rd msg to to l = r at *
                go_enter Try.func104, Try.ntmps104
                go_wp2_with fail
                refine C1.out.mono ?_
                rintro e w1 ⟨rfl, rfl⟩
                go_wp2_with fail
                refine C2.out.mono ?_
                rintro e w2 ⟨f2, h2'⟩
                have F2 := Lib.hid f2
                cases r with
                | err c =>
                  simp only at h2'
                  subst h2'
                  have hc : (c == 0) = false := by rcases HC.out c rfl with rfl | rfl | rfl | rfl <;> rfl
                  clear f2
                  go_wp2_with fail
                  refine bodyPost_ret (v := .tuple #[.slice none 0 0, .int .i64 0, .int .i64 c]) (by simp [results, Try.results104, go_sem]) rfl ?_
                  exact ⟨F2.out, rfl⟩
                | ok m k =>
                  obtain ⟨a2, c2, rfl, s2⟩ := h2'
                  have S2 := Lib.hid s2
                  clear f2 s2
                  go_wp2_with fail
                  refine bodyPost_ret (v := .tuple #[.slice a2 m.length c2, .int .i64 ((p : Int) + 2), .int .i64 0]) (by simp [results, Try.results104, go_sem]) rfl ?_
                  exact ⟨F2.out, a2, c2, rfl, S2.out⟩
              · rw [rd_ptr1 hlt (by rw [← HN.out]; exact h192) h1 (by rw [← HTO.out]; omega)]
                go_enter Try.func104, Try.ntmps104
                go_wp2_with fail
                refine C1.out.mono ?_
                rintro e w1 ⟨rfl, rfl⟩
                go_wp2_with fail
                refine bodyPost_ret (v := .tuple #[.slice none 0 0, .int .i64 0, .int .i64 10]) (by simp [results, Try.results104, go_sem]) rfl ?_
                exact ⟨Fr.refl _ _, rfl⟩
            · rw [rd_ptr0 hlt (by rw [← HN.out]; exact h192) (by omega)]
              go_enter Try.func104, Try.ntmps104
              go_wp2_with fail
              refine C1.out.mono ?_
              rintro e w1 ⟨rfl, rfl⟩
              go_wp2_with fail
              refine bodyPost_ret (v := .tuple #[.slice none 0 0, .int .i64 0, .int .i64 2]) (by simp [results, Try.results104, go_sem]) rfl ?_
              exact ⟨Fr.refl _ _, rfl⟩
          · by_cases h63 : 63 < n
            · rw [rd_form hlt (by rw [← HN.out]; omega) (by rw [← HN.out]; exact h63)]
              go_enter Try.func104, Try.ntmps104
              go_wp2_with fail
              refine C1.out.mono ?_
              rintro e w1 ⟨rfl, rfl⟩
              go_wp2_with fail
              refine bodyPost_ret (v := .tuple #[.slice none 0 0, .int .i64 0, .int .i64 4]) (by simp [results, Try.results104, go_sem]) rfl ?_
              exact ⟨Fr.refl _ _, rfl⟩
            · by_cases h3 : p + 1 + n ≤ msg.length
              · obtain ⟨x, hx⟩ : ∃ x, x = (msg.drop (p + 1)).take n := ⟨_, rfl⟩
                have he : (ByteArray.mk msg.toArray).extract (p + 1) (p + 1 + n) = ⟨x.toArray⟩ := by rw [mk_extract, hx, List.drop_take, show p + 1 + n - (p + 1) = n by omega]
                have HX : Hid (x = (msg.drop (p + 1)).take (bt msg p)) := Lib.hid (by rw [hx, HN.out])
                have HRD : Hid (rd msg p bound l = if mayL (l ++ [x]) = true then rd msg (p + 1 + n) bound (l ++ [x]) else .err 9) := Lib.hid (by
                  cases h4 : mayL (l ++ [x])
                  · rw [rd_bad hlt (by rw [← HN.out]; omega) (by rw [← HN.out]; omega) (by rw [← HN.out]; exact h3) (by rw [← HX.out]; exact h4)]; rfl
                  · rw [rd_lbl hlt (by rw [← HN.out]; omega) (by rw [← HN.out]; omega) (by rw [← HN.out]; exact h3) (by rw [← HX.out]; exact h4), ← HX.out, ← HN.out, if_pos rfl])
                clear hx
                generalize rd msg p bound l = r at *
                obtain ⟨i0, hi1, hi2, hi3, hi4⟩ := info_parts Try.info21
                go_enter Try.func104, Try.ntmps104
                go_wp2_with fail
                refine C1.out.mono ?_
                rintro e w1 ⟨rfl, rfl⟩
                clear C1
                go_wp2_with fail
                have s1 : IntKind.i64.wrap ((p : Int) + 1) = (p : Int) + 1 := IntWalk.i64_in _ (by omega)
                have s2 : IntKind.i64.wrap ((p : Int) + 1 + (n : Int)) = (p : Int) + 1 + (n : Int) := IntWalk.i64_in _ (by omega)
                have s3 : (0 : Int) ≤ (p : Int) + 1 := by omega
                have s4 : (p : Int) + 1 ≤ (p : Int) + 1 + (n : Int) := by omega
                have s5 : (p : Int) + 1 + (n : Int) ≤ (msg.length : Int) := by omega
                have s6 : ((p : Int) + 1).toNat = p + 1 := by omega
                have s7 : ((p : Int) + 1 + (n : Int)).toNat = p + 1 + n := by omega
                haveI : Nonempty (WC (Fr (fun _ => False) w)) := ⟨⟨w, Fr.refl _ _⟩⟩
                refine wp_region_plan [6, 8, 17, 18, 19] (Plan.seq [0, 1, 2, 3, 4, 5, 7, 9, 10, 11, 12, 13, 14, 15, 16] (.fork 6 17 (.fork 8 17 (Plan.seq [17, 18, 19, 20, 21, 22, 23, 24, 25] .done) (Plan.seq [8, 18, 19, 20, 21, 22, 23, 24, 25] .done)) (Plan.seq [6, 8, 18, 19, 20, 21, 22, 23, 24, 25] .done))) (fun w' => ∃ z : WC (Fr (fun _ => False) w), w' = z.val) (by kernel_rfl) (by kernel_rfl) (fun c a w d v h => by cases d <;> exact h) (fun c a w d v h => by cases d <;> exact h) ⟨⟨w.drew, (Fr.refl _ _).drew⟩, rfl⟩ ?_
                simp only [Plan.seq, List.foldr]
                repeat (refine wpV_q (by simp only [List.getElem?_toArray, List.getElem?_cons_succ, List.getElem?_cons_zero] <;> rfl) (by rfl) (by rfl) ?_; go_big_quiet_step (fail); refine wpQuiet_nil ?_)
                refine wpV_fork (by simp only [List.getElem?_toArray, List.getElem?_cons_succ, List.getElem?_cons_zero] <;> rfl) (by simp only [List.getElem?_toArray, List.getElem?_cons_succ, List.getElem?_cons_zero] <;> rfl) ?_ ?_
                · go_wp2_with fail
                  have f6 : Gr w ((w.alloc (.cells #[] 9)).drew) := ((Fr.refl _ _).alloc _).drew
                  have o6 : ((w.alloc (.cells #[] 9)).drew).ownsRow w.heap.size 9 1 (.slice (some ⟨w.heap.size, 0, none⟩) 0 0) ([] : List Lbl).length (strVs []) := (World.ownsRow_made w #[] 0 (Nat.le_refl _) (Nat.zero_le _) rfl).drew
                  have O6 := Lib.hid o6
                  have F6 := Lib.hid f6
                  refine ⟨⟨⟨_, f6⟩, rfl⟩, ?_⟩
                  clear o6 f6
                  refine wpV_fork (by simp only [List.getElem?_toArray, List.getElem?_cons_succ, List.getElem?_cons_zero] <;> rfl) (by simp only [List.getElem?_toArray, List.getElem?_cons_succ, List.getElem?_cons_zero] <;> rfl) ?_ ?_
                  · skip
                    go_wp2_with (at_builtin; refine wpList_strs_app rfl _ _ rfl O6.out (SL.out.keep F6.out (fun _ _ h => h)) rfl rfl rfl F6.out.size (by simp; omega) ?_)
                    intro v8 w8 ho8 hg8
                    have f8 : Gr w w8 := Fr.trans F6.out ((Fr.refl (fun k => Value.ownBlock _ = some k) _).grown hg8 (fun q hq => .inl hq)) (fun k hk => .inr (O6.out.lt k hk).1)
                    have O8 : Hid (w8.ownsRow w.heap.size 9 1 v8 l.length (strVs l)) := Lib.hid (by simpa using ho8)
                    have F8 := Lib.hid f8
                    clear ho8 hg8
                    go_wp2_with fail
                    refine ⟨⟨⟨w8, f8⟩, rfl⟩, ?_⟩
                    clear f8
                    refine wpV_e (by simp only [List.getElem?_toArray, List.getElem?_cons_succ, List.getElem?_cons_zero] <;> rfl) (by rfl) ?_
                    go_wp2_with fail
                    have f10 : Gr w8 (w8.alloc (.cells #[strV x] 9)) := (Fr.refl _ _).alloc _
                    have O10 := Lib.hid (O8.out.alloc (.cells #[strV x] 9))
                    have N10 : Hid (SlA (w8.alloc (.cells #[strV x] 9)) (some ⟨w8.heap.size, 0, none⟩) [x].length 1 (strVs [x])) := Lib.hid (sla_one _ _ (by rw [World.cell?_alloc_at _ _ _ _ rfl]; rfl))
                    have F10 := Lib.hid (Gr.trans F8.out f10)
                    refine ⟨⟨⟨_, F10.out⟩, rfl⟩, ?_⟩
                    clear f10
                    refine wpV_e (by simp only [List.getElem?_toArray, List.getElem?_cons_succ, List.getElem?_cons_zero] <;> rfl) (by rfl) ?_
                    go_wp2_with (at_builtin; refine wpList_strs_app rfl _ _ rfl O10.out N10.out rfl rfl rfl F10.out.size (by simp; omega) ?_)
                    intro v9 w9 ho9 hg9
                    have f9 : Gr w w9 := Fr.trans F10.out ((Fr.refl (fun k => Value.ownBlock _ = some k) _).grown hg9 (fun q hq => .inl hq)) (fun k hk => .inr (O10.out.lt k hk).1)
                    have hl9 : (l ++ [x]).length = l.length + 1 := by simp
                    obtain ⟨a9, c9, rfl, s9, -⟩ := SlA.of_own ho9
                    have C3 := Lib.hid (IH.out (p + 1 + n) bound (l ++ [x]) a9 c9 w9 (by have := rdM_lbl (msg := msg) (n := n) (bound := bound) hlt; omega) (by omega) hb (by simp; omega) (by rw [hl9]; simpa using s9))
                    rw [← HRD.out, hl9] at C3
                    have F9 := Lib.hid f9
                    clear hg9 ho9 s9 hl9
                    go_wp2_with fail
                    refine ⟨⟨⟨w9, f9⟩, rfl⟩, ?_⟩
                    clear f9
                    refine wpV_e (by simp only [List.getElem?_toArray, List.getElem?_cons_succ, List.getElem?_cons_zero] <;> rfl) (by rfl) ?_
                    go_wp2_with fail
                    refine C3.out.mono ?_
                    rintro e wa ⟨fa, ha⟩
                    have FA := Lib.hid (Gr.trans F9.out fa)
                    have HA := Lib.hid ha
                    clear ha fa C3
                    cases r with
                    | err c =>
                      have ha := HA.out
                      simp only at ha
                      subst ha
                      go_wp2_with fail
                      refine ⟨⟨⟨wa, FA.out⟩, rfl⟩, ?_⟩
                      repeat (refine wpV_q (by simp only [List.getElem?_toArray, List.getElem?_cons_succ, List.getElem?_cons_zero] <;> rfl) (by rfl) (by rfl) ?_; go_big_quiet_step (fail); refine wpQuiet_nil ?_)
                      refine wpV_done ?_
                      go_wp2_with fail
                      refine bodyPost_ret (v := .tuple #[.slice none 0 0, .int .i64 0, .int .i64 c]) (by simp [results, Try.results104, go_sem]) rfl ?_
                      exact ⟨FA.out, rfl⟩
                    | ok m k =>
                      obtain ⟨a2, c2, rfl, s2⟩ := HA.out
                      have S2 := Lib.hid s2
                      clear s2 HA
                      go_wp2_with fail
                      refine ⟨⟨⟨wa, FA.out⟩, rfl⟩, ?_⟩
                      repeat (refine wpV_q (by simp only [List.getElem?_toArray, List.getElem?_cons_succ, List.getElem?_cons_zero] <;> rfl) (by rfl) (by rfl) ?_; go_big_quiet_step (fail); refine wpQuiet_nil ?_)
                      refine wpV_done ?_
                      go_wp2_with fail
                      refine bodyPost_ret (v := .tuple #[.slice a2 m.length c2, .int .i64 k, .int .i64 0]) (by simp [results, Try.results104, go_sem]) rfl ?_
                      exact ⟨FA.out, a2, c2, rfl, S2.out⟩
                  · go_wp2_with fail
                    have f10 : Gr w ((((w.alloc (.cells #[] 9)).alloc (.cells #[strV x] 9))).drew) := (((Fr.refl _ _).alloc _).alloc _).drew
                    have O7 : Hid (((((w.alloc (.cells #[] 9)).alloc (.cells #[strV x] 9))).drew).ownsRow w.heap.size 9 1 (.slice (some ⟨w.heap.size, 0, none⟩) 0 0) ([] : List Lbl).length (strVs [])) := Lib.hid (((World.ownsRow_made (base := w.heap.size) w #[] 0 (Nat.le_refl _) (Nat.zero_le _) rfl).alloc _).drew)
                    have n7 : ((((w.alloc (.cells #[] 9)).alloc (.cells #[strV x] 9))).drew).cell? ⟨w.heap.size + 1, 0, none⟩ = some (strV x) := by
                      show ((w.alloc _).alloc _).cell? _ = _
                      rw [World.cell?, heap_alloc_if, heap_alloc_if]
                      simp
                    have F7 := Lib.hid f10
                    have N7 := Lib.hid n7
                    refine ⟨⟨⟨_, f10⟩, rfl⟩, ?_⟩
                    clear f10 n7
                    refine wpV_e (by simp only [List.getElem?_toArray, List.getElem?_cons_succ, List.getElem?_cons_zero] <;> rfl) (by rfl) ?_
                    go_wp2_with (at_builtin; refine wpList_strs_app rfl _ _ rfl O7.out (SL.out.keep F7.out (fun _ _ h => h)) rfl rfl rfl F7.out.size (by simp; omega) ?_)
                    intro v8 w8 ho8 hg8
                    have f8 : Gr w w8 := Fr.trans F7.out ((Fr.refl (fun k => Value.ownBlock _ = some k) _).grown hg8 (fun q hq => .inl hq)) (fun k hk => .inr (O7.out.lt k hk).1)
                    have O10 : Hid (w8.ownsRow w.heap.size 9 1 v8 l.length (strVs l)) := Lib.hid (by simpa using ho8)
                    have N10 : Hid (SlA w8 (some ⟨w.heap.size + 1, 0, none⟩) [x].length 1 (strVs [x])) := Lib.hid (sla_one _ _ (hg8.cell N7.out (by simp [Value.ownBlock])))
                    have F10 := Lib.hid f8
                    clear ho8 hg8
                    go_wp2_with fail
                    refine ⟨⟨⟨w8, f8⟩, rfl⟩, ?_⟩
                    clear f8
                    refine wpV_e (by simp only [List.getElem?_toArray, List.getElem?_cons_succ, List.getElem?_cons_zero] <;> rfl) (by rfl) ?_
                    go_wp2_with (at_builtin; refine wpList_strs_app rfl _ _ rfl O10.out N10.out rfl rfl rfl F10.out.size (by simp; omega) ?_)
                    intro v9 w9 ho9 hg9
                    have f9 : Gr w w9 := Fr.trans F10.out ((Fr.refl (fun k => Value.ownBlock _ = some k) _).grown hg9 (fun q hq => .inl hq)) (fun k hk => .inr (O10.out.lt k hk).1)
                    have hl9 : (l ++ [x]).length = l.length + 1 := by simp
                    obtain ⟨a9, c9, rfl, s9, -⟩ := SlA.of_own ho9
                    have C3 := Lib.hid (IH.out (p + 1 + n) bound (l ++ [x]) a9 c9 w9 (by have := rdM_lbl (msg := msg) (n := n) (bound := bound) hlt; omega) (by omega) hb (by simp; omega) (by rw [hl9]; simpa using s9))
                    rw [← HRD.out, hl9] at C3
                    have F9 := Lib.hid f9
                    clear hg9 ho9 s9 hl9
                    go_wp2_with fail
                    refine ⟨⟨⟨w9, f9⟩, rfl⟩, ?_⟩
                    clear f9
                    refine wpV_e (by simp only [List.getElem?_toArray, List.getElem?_cons_succ, List.getElem?_cons_zero] <;> rfl) (by rfl) ?_
                    go_wp2_with fail
                    refine C3.out.mono ?_
                    rintro e wa ⟨fa, ha⟩
                    have FA := Lib.hid (Gr.trans F9.out fa)
                    have HA := Lib.hid ha
                    clear ha fa C3
                    cases r with
                    | err c =>
                      have ha := HA.out
                      simp only at ha
                      subst ha
                      go_wp2_with fail
                      refine ⟨⟨⟨wa, FA.out⟩, rfl⟩, ?_⟩
                      repeat (refine wpV_q (by simp only [List.getElem?_toArray, List.getElem?_cons_succ, List.getElem?_cons_zero] <;> rfl) (by rfl) (by rfl) ?_; go_big_quiet_step (fail); refine wpQuiet_nil ?_)
                      refine wpV_done ?_
                      go_wp2_with fail
                      refine bodyPost_ret (v := .tuple #[.slice none 0 0, .int .i64 0, .int .i64 c]) (by simp [results, Try.results104, go_sem]) rfl ?_
                      exact ⟨FA.out, rfl⟩
                    | ok m k =>
                      obtain ⟨a2, c2, rfl, s2⟩ := HA.out
                      have S2 := Lib.hid s2
                      clear s2 HA
                      go_wp2_with fail
                      refine ⟨⟨⟨wa, FA.out⟩, rfl⟩, ?_⟩
                      repeat (refine wpV_q (by simp only [List.getElem?_toArray, List.getElem?_cons_succ, List.getElem?_cons_zero] <;> rfl) (by rfl) (by rfl) ?_; go_big_quiet_step (fail); refine wpQuiet_nil ?_)
                      refine wpV_done ?_
                      go_wp2_with fail
                      refine bodyPost_ret (v := .tuple #[.slice a2 m.length c2, .int .i64 k, .int .i64 0]) (by simp [results, Try.results104, go_sem]) rfl ?_
                      exact ⟨FA.out, a2, c2, rfl, S2.out⟩
                · go_wp2_with fail
                  have f9 : Gr w ((w.alloc (.cells #[strV x] 9)).drew) := ((Fr.refl _ _).alloc _).drew
                  refine ⟨⟨⟨_, f9⟩, rfl⟩, ?_⟩
                  clear f9
                  refine wpV_e (by simp only [List.getElem?_toArray, List.getElem?_cons_succ, List.getElem?_cons_zero] <;> rfl) (by rfl) ?_
                  go_wp2_with fail
                  have f10 : Gr w ((((w.alloc (.cells #[strV x] 9)).alloc (.cells #[] 9))).drew) := (((Fr.refl _ _).alloc _).alloc _).drew
                  have O7 : Hid (((((w.alloc (.cells #[strV x] 9)).alloc (.cells #[] 9))).drew).ownsRow w.heap.size 9 1 (.slice (some ⟨w.heap.size + 1, 0, none⟩) 0 0) ([] : List Lbl).length (strVs [])) := Lib.hid ((by have := (World.ownsRow_made (e := 9) (size := 1) (base := w.heap.size) (w.alloc (.cells #[strV x] 9)) #[] 0 (by simp) (Nat.zero_le _) rfl).drew; rw [World.size_alloc] at this; exact this))
                  have n7 : ((((w.alloc (.cells #[strV x] 9)).alloc (.cells #[] 9))).drew).cell? ⟨w.heap.size, 0, none⟩ = some (strV x) := by
                    show ((w.alloc _).alloc _).cell? _ = _
                    rw [World.cell?, heap_alloc_if, heap_alloc_if]
                    simp
                  have F7 := Lib.hid f10
                  have N7 := Lib.hid n7
                  refine ⟨⟨⟨_, f10⟩, rfl⟩, ?_⟩
                  clear f10 n7
                  refine wpV_e (by simp only [List.getElem?_toArray, List.getElem?_cons_succ, List.getElem?_cons_zero] <;> rfl) (by rfl) ?_
                  go_wp2_with (at_builtin; refine wpList_strs_app rfl _ _ rfl O7.out (SL.out.keep F7.out (fun _ _ h => h)) rfl rfl rfl F7.out.size (by simp; omega) ?_)
                  intro v8 w8 ho8 hg8
                  have f8 : Gr w w8 := Fr.trans F7.out ((Fr.refl (fun k => Value.ownBlock _ = some k) _).grown hg8 (fun q hq => .inl hq)) (fun k hk => .inr (O7.out.lt k hk).1)
                  have O10 : Hid (w8.ownsRow w.heap.size 9 1 v8 l.length (strVs l)) := Lib.hid (by simpa using ho8)
                  have N10 : Hid (SlA w8 (some ⟨w.heap.size, 0, none⟩) [x].length 1 (strVs [x])) := Lib.hid (sla_one _ _ (hg8.cell N7.out (by simp [Value.ownBlock])))
                  have F10 := Lib.hid f8
                  clear ho8 hg8
                  go_wp2_with fail
                  refine ⟨⟨⟨w8, f8⟩, rfl⟩, ?_⟩
                  clear f8
                  refine wpV_e (by simp only [List.getElem?_toArray, List.getElem?_cons_succ, List.getElem?_cons_zero] <;> rfl) (by rfl) ?_
                  go_wp2_with (at_builtin; refine wpList_strs_app rfl _ _ rfl O10.out N10.out rfl rfl rfl F10.out.size (by simp; omega) ?_)
                  intro v9 w9 ho9 hg9
                  have f9 : Gr w w9 := Fr.trans F10.out ((Fr.refl (fun k => Value.ownBlock _ = some k) _).grown hg9 (fun q hq => .inl hq)) (fun k hk => .inr (O10.out.lt k hk).1)
                  have hl9 : (l ++ [x]).length = l.length + 1 := by simp
                  obtain ⟨a9, c9, rfl, s9, -⟩ := SlA.of_own ho9
                  have C3 := Lib.hid (IH.out (p + 1 + n) bound (l ++ [x]) a9 c9 w9 (by have := rdM_lbl (msg := msg) (n := n) (bound := bound) hlt; omega) (by omega) hb (by simp; omega) (by rw [hl9]; simpa using s9))
                  rw [← HRD.out, hl9] at C3
                  have F9 := Lib.hid f9
                  clear hg9 ho9 s9 hl9
                  go_wp2_with fail
                  refine ⟨⟨⟨w9, f9⟩, rfl⟩, ?_⟩
                  clear f9
                  refine wpV_e (by simp only [List.getElem?_toArray, List.getElem?_cons_succ, List.getElem?_cons_zero] <;> rfl) (by rfl) ?_
                  go_wp2_with fail
                  refine C3.out.mono ?_
                  rintro e wa ⟨fa, ha⟩
                  have FA := Lib.hid (Gr.trans F9.out fa)
                  have HA := Lib.hid ha
                  clear ha fa C3
                  cases r with
                  | err c =>
                    have ha := HA.out
                    simp only at ha
                    subst ha
                    go_wp2_with fail
                    refine ⟨⟨⟨wa, FA.out⟩, rfl⟩, ?_⟩
                    repeat (refine wpV_q (by simp only [List.getElem?_toArray, List.getElem?_cons_succ, List.getElem?_cons_zero] <;> rfl) (by rfl) (by rfl) ?_; go_big_quiet_step (fail); refine wpQuiet_nil ?_)
                    refine wpV_done ?_
                    go_wp2_with fail
                    refine bodyPost_ret (v := .tuple #[.slice none 0 0, .int .i64 0, .int .i64 c]) (by simp [results, Try.results104, go_sem]) rfl ?_
                    exact ⟨FA.out, rfl⟩
                  | ok m k =>
                    obtain ⟨a2, c2, rfl, s2⟩ := HA.out
                    have S2 := Lib.hid s2
                    clear s2 HA
                    go_wp2_with fail
                    refine ⟨⟨⟨wa, FA.out⟩, rfl⟩, ?_⟩
                    repeat (refine wpV_q (by simp only [List.getElem?_toArray, List.getElem?_cons_succ, List.getElem?_cons_zero] <;> rfl) (by rfl) (by rfl) ?_; go_big_quiet_step (fail); refine wpQuiet_nil ?_)
                    refine wpV_done ?_
                    go_wp2_with fail
                    refine bodyPost_ret (v := .tuple #[.slice a2 m.length c2, .int .i64 k, .int .i64 0]) (by simp [results, Try.results104, go_sem]) rfl ?_
                    exact ⟨FA.out, a2, c2, rfl, S2.out⟩
              · rw [rd_cut hlt (by rw [← HN.out]; omega) (by rw [← HN.out]; omega) (by rw [← HN.out]; omega)]
                go_enter Try.func104, Try.ntmps104
                go_wp2_with fail
                refine C1.out.mono ?_
                rintro e w1 ⟨rfl, rfl⟩
                go_wp2_with fail
                refine bodyPost_ret (v := .tuple #[.slice none 0 0, .int .i64 0, .int .i64 2]) (by simp [results, Try.results104, go_sem]) rfl ?_
                exact ⟨Fr.refl _ _, rfl⟩
      · rw [rd_short (by omega)]
        go_enter Try.func104, Try.ntmps104
        go_wp2_with fail
        refine C1.out.mono ?_
        rintro e w1 ⟨rfl, rfl⟩
        go_wp2_with fail
        refine bodyPost_ret (v := .tuple #[.slice none 0 0, .int .i64 0, .int .i64 2]) (by simp [results, Try.results104, go_sem]) rfl ?_
        exact ⟨Fr.refl _ _, rfl⟩

set_option maxHeartbeats 2000000 in
set_option maxRecDepth 100000 in
theorem refRead21_any (msg : List UInt8) (p : Nat) (hp : p ≤ msg.length) (hmsg : msg.length ≤ 100000) (w : World) :
    Calls Try.prog 64 #[.string ⟨msg.toArray⟩, .int .i64 p] w (NmRdA (rd msg p p []) w) := by
  have C1 := Lib.hid (refRd21_any msg hmsg _ p p [] none 0 w (Nat.lt_succ_self _) hp hp (by simp) (SlA.nil w))
  rw [if_pos mayL_nil] at C1
  have zm := mk_size msg
  generalize rd msg p p [] = r at *
  go_enter Try.func64, Try.ntmps64
  go_wp2_with fail
  refine C1.out.mono ?_
  rintro e w1 ⟨f1, h1⟩
  have F1 := Lib.hid f1
  clear f1
  cases r with
  | err c =>
    simp only at h1
    subst h1
    go_wp2_with fail
    refine bodyPost_ret (v := .tuple #[.slice none 0 0, .int .i64 0, .int .i64 c]) (by simp [results, Try.results64, go_sem]) rfl ?_
    exact ⟨F1.out, rfl⟩
  | ok m k =>
    obtain ⟨a2, c2, rfl, s2⟩ := h1
    have S2 := Lib.hid s2
    clear s2
    go_wp2_with fail
    refine bodyPost_ret (v := .tuple #[.slice a2 m.length c2, .int .i64 k, .int .i64 0]) (by simp [results, Try.results64, go_sem]) rfl ?_
    exact ⟨F1.out, a2, c2, rfl, S2.out⟩
end Go.Proofs.Ytkclgemkeifbaaa
