/-
  The reference's May of messages.
-/
import Derived.Test.YtkclgemkeifbaaaMsgWrite
import Derived.Test.YtkclgemkeifbaaaMsgRead
namespace Go.Proofs.Ytkclgemkeifbaaa
open Go.RowKit Go.Proofs

theorem may_no {m : Msg} (h : m.may = true → False) : m.may = false := by
  cases hm : m.may
  · rfl
  · exact absurd hm (fun h' => h h')
theorem bool_end {a b : Bool} (h : a = b) : Ending.returned (.bool b) = .returned (.bool a) := by rw [h]

/-- the bounds that are looked at ahead of the lists -/
def Msg.fore (m : Msg) : Prop := (1 ≤ m.kind ∧ m.kind ≤ 14) ∧ (0 ≤ m.node ∧ m.node ≤ 65535) ∧ (0 ≤ m.walk ∧ m.walk ≤ 15) ∧ (m.nodes.length : Int) ≤ 64 ∧ (m.ids.length : Int) ≤ 64 ∧ (m.recs.length : Int) ≤ 16
theorem Msg.fore_of_may {m : Msg} (h : m.may = true) : m.fore := by
  obtain ⟨a, b, c, d, e, f, _⟩ := Msg.may_parts h
  exact ⟨a, b, c, by omega, by omega, by omega⟩
theorem Msg.may_mk {m : Msg} (h : m.fore) (h1 : ∀ n ∈ m.nodes, 1 ≤ n ∧ n ≤ 65535) (h2 : ∀ x ∈ m.ids, x.key.size ≤ 64) (h3 : ∀ x ∈ m.recs, x.right = true) : m.may = true := by
  obtain ⟨⟨a1, a2⟩, ⟨b1, b2⟩, ⟨c1, c2⟩, d, e, f⟩ := h
  have d' : m.nodes.length ≤ 64 := by omega
  have e' : m.ids.length ≤ 64 := by omega
  have f' : m.recs.length ≤ 16 := by omega
  unfold Msg.may
  simp only [Bool.and_eq_true, decide_eq_true_eq, List.all_eq_true, inR_iff]
  exact ⟨⟨⟨⟨⟨⟨⟨⟨⟨a1, a2⟩, b1, b2⟩, c1, c2⟩, d'⟩, e'⟩, f'⟩, h1⟩, h2⟩, h3⟩
theorem all_snoc {α : Type} {P : α → Prop} {l : List α} {k : Nat} (h : ∀ x ∈ l.take k, P x) (hk : k < l.length) (hx : P l[k]) : ∀ x ∈ l.take (k + 1), P x := by
  rw [List.take_succ_eq_append_getElem hk]
  intro x hm
  rcases List.mem_append.1 hm with hm | hm
  · exact h x hm
  · rw [List.mem_singleton.1 hm]; exact hx

set_option maxHeartbeats 4000000 in
set_option maxRecDepth 100000 in
theorem refMay_no (m : Msg) (p : MsgP) (W : World) (h : ¬ m.fore) : Calls Try.prog 49 #[m.val p] W fun e w' => e = .returned (.bool m.may) ∧ Gr W w' := by
  have HF := Lib.hid h; clear h
  have HR : Hid (m.may = false) := Lib.hid (may_no fun h => HF.out (Msg.fore_of_may h))
  rw [HR.out]
  go_enter Try.func49, Try.ntmps49
  go_wp2_with fail
  all_goals first
    | (exfalso; exact HF.out ⟨⟨by omega, by omega⟩, ⟨by omega, by omega⟩, ⟨by omega, by omega⟩, by omega, by omega, by omega⟩)
    | (go_ret
       exact ⟨rfl, (Fr.refl _ _).alloc _⟩)

set_option maxHeartbeats 4000000 in
set_option maxRecDepth 100000 in
theorem refMay_yes (m : Msg) (p : MsgP) (W : World) (hf : m.fore) (h : MsgAt W m p) : Calls Try.prog 49 #[m.val p] W fun e w' => e = .returned (.bool m.may) ∧ Gr W w' := by
  have HF := Lib.hid hf
  obtain ⟨⟨a1, a2⟩, ⟨b1, b2⟩, ⟨c1, c2⟩, d, e, f⟩ := hf
  obtain ⟨r, hr⟩ : ∃ r, r = m.may := ⟨_, rfl⟩
  rw [← hr]
  have HR := Lib.hid hr; clear hr
  have hl1 := h.nodes.le
  have hl2 := h.ids.le
  have hl3 := h.recs.le
  have hm1 := h.nodes.max
  have hm2 := h.ids.max
  have hm3 := h.recs.max
  have HM := Lib.hid (fun w' (f : Gr W w') => h.keep f)
  clear h
  have e1 : decide (m.kind < 1) = false := by simp; omega
  have e2 : decide (14 < m.kind) = false := by simp; omega
  have e3 : decide (m.node < 0) = false := by simp; omega
  have e4 : decide (65535 < m.node) = false := by simp; omega
  have e5 : decide (m.walk < 0) = false := by simp; omega
  have e6 : decide (15 < m.walk) = false := by simp; omega
  have e7 : decide ((64 : Int) < (m.nodes.length : Int)) = false := by simp; omega
  have e8 : decide ((64 : Int) < (m.ids.length : Int)) = false := by simp; omega
  have e9 : decide ((16 : Int) < (m.recs.length : Int)) = false := by simp; omega
  obtain ⟨w1, hw1⟩ : ∃ w1, w1 = W.alloc (.cells #[.int .i64 m.kind, .int .i64 m.node, .int .i64 m.walk, .bool m.high, .slice p.a1 m.nodes.length p.c1, .slice p.a2 m.ids.length p.c2, .slice p.a3 m.recs.length p.c3] 34) := ⟨_, rfl⟩
  have F1 : Gr W w1 := by rw [hw1]; exact (Fr.refl _ _).alloc _
  have BX : Bx w1 W.heap.size (m.cells p) := by rw [hw1]; exact Bx.new W (m.arr p) 34
  have HM1 := Lib.hid (HM.out _ F1)
  have F1 := Lib.hid F1
  have BX := Lib.hid BX
  have HW1 := Lib.hid hw1
  clear hw1
  go_enter Try.func49, Try.ntmps49
  go_wp2_with fail
  clear e1 e2 e3 e4 e5 e6 e7 e8 e9
  rw [← HW1.out]
  clear HW1
  have y4 := BX.out 4 _ rfl
  have y5 := BX.out 5 _ rfl
  have y6 := BX.out 6 _ rfl
  go_loop [3] (fun iv => ∃ k : Nat, iv = .int .i64 k ∧ k ≤ m.nodes.length ∧ Hid (∀ n ∈ m.nodes.take k, 1 ≤ n ∧ n ≤ 65535)) (fun iv => m.nodes.length - (intOf iv).toNat)
  case atStart => exact ⟨0, rfl, Nat.zero_le _, Lib.hid (fun n hn => by simp at hn)⟩
  case round =>
    obtain ⟨k, rfl, hk, HA⟩ := hrel
    by_cases hlt : k < m.nodes.length
    · obtain ⟨bb, o, ea, hc⟩ := HM1.out.node k hlt
      have HS := Lib.hid (all_snoc HA.out hlt)
      have HX := Lib.hid (fun (h : m.may = true) => (Msg.may_parts h).2.2.2.2.2.2.1 _ (List.getElem_mem hlt))
      generalize m.nodes[k] = x at *
      by_cases x1 : 1 ≤ x
      · by_cases x2 : x ≤ 65535
        · have HS2 := Lib.hid (HS.out ⟨x1, x2⟩)
          clear HS HX
          go_wp2_with fail
          go_round
          case rel => exact ⟨k + 1, by go_num, by omega, HS2⟩
          case measure => simp [intOf]; omega
        · have HN : Hid (m.may = false) := Lib.hid (may_no fun h => x2 (HX.out h).2)
          clear HS HX
          go_wp2_with fail
          go_ret
          exact ⟨bool_end (by rw [HR.out, HN.out]), F1.out⟩
      · have HN : Hid (m.may = false) := Lib.hid (may_no fun h => x1 (HX.out h).1)
        clear HS HX
        go_wp2_with fail
        go_ret
        exact ⟨bool_end (by rw [HR.out, HN.out]), F1.out⟩
    · have HA1 : Hid (∀ n ∈ m.nodes, 1 ≤ n ∧ n ≤ 65535) := Lib.hid (by have := HA.out; rwa [List.take_of_length_le (by omega)] at this)
      clear HA
      go_wp2_with fail
      clear hlt hk
      go_loop [4] (fun iv => ∃ k : Nat, iv = .int .i64 k ∧ k ≤ m.ids.length ∧ Hid (∀ n ∈ m.ids.take k, n.key.size ≤ 64)) (fun iv => m.ids.length - (intOf iv).toNat)
      case atStart => exact ⟨0, rfl, Nat.zero_le _, Lib.hid (fun n hn => by simp at hn)⟩
      case round =>
        obtain ⟨k, rfl, hk, HA⟩ := hrel
        by_cases hlt : k < m.ids.length
        · obtain ⟨bb, o, ea, hc, _⟩ := HM1.out.id k hlt
          have HS := Lib.hid (all_snoc HA.out hlt)
          have HX := Lib.hid (fun (h : m.may = true) => (Msg.may_parts h).2.2.2.2.2.2.2.1 _ (List.getElem_mem hlt))
          generalize m.ids[k] = x at *
          by_cases x2 : x.key.size ≤ 64
          · have HS2 := Lib.hid (HS.out x2)
            clear HS HX
            go_wp2_with fail
            go_round
            case rel => exact ⟨k + 1, by go_num, by omega, HS2⟩
            case measure => simp [intOf]; omega
          · have HN : Hid (m.may = false) := Lib.hid (may_no fun h => x2 (HX.out h))
            clear HS HX
            go_wp2_with fail
            go_ret
            exact ⟨bool_end (by rw [HR.out, HN.out]), F1.out⟩
        · have HA2 : Hid (∀ n ∈ m.ids, n.key.size ≤ 64) := Lib.hid (by have := HA.out; rwa [List.take_of_length_le (by omega)] at this)
          clear HA
          go_wp2_with fail
          clear hlt hk y4 y5 y6
          go_loopw [5, 6] (fun iv _ wr => ∃ k : Nat, iv = .int .i64 k ∧ k ≤ m.recs.length ∧ Hid (∀ n ∈ m.recs.take k, n.right = true) ∧ Gr W wr ∧ Bx wr W.heap.size (m.cells p)) (fun iv _ _ => m.recs.length - (intOf iv).toNat)
          case atStart => exact ⟨0, rfl, Nat.zero_le _, Lib.hid (fun n hn => by simp at hn), F1.out, BX.out⟩
          case round =>
            obtain ⟨k, rfl, hk, HA, f1, bx⟩ := hrel
            clear F1 BX
            have F6 := Lib.hid f1
            have BX6 := Lib.hid bx
            have y1 := BX6.out 6 _ rfl
            clear f1 bx
            by_cases hlt : k < m.recs.length
            · obtain ⟨bb, o, ea, hc0, hc1, hc2, hc3, hc4, hc5⟩ := (HM.out wr F6.out).rcd k hlt
              have HS := Lib.hid (all_snoc HA.out hlt)
              have HX := Lib.hid (fun (h : m.may = true) => (Msg.may_parts h).2.2.2.2.2.2.2.2 _ (List.getElem_mem hlt))
              generalize m.recs[k] = x at *
              have g1 := BX6.out.keep ((Fr.refl (fun _ => False) wr).alloc (.cells #[.string x.key, .int .u64 x.ver, .int .i64 x.origin, .int .i64 x.age, .bool x.gone, .string x.data] 127)) (fun h => h)
              have G1 := Lib.hid g1; clear g1
              have G2 := Lib.hid (F6.out.alloc (.cells #[.string x.key, .int .u64 x.ver, .int .i64 x.origin, .int .i64 x.age, .bool x.gone, .string x.data] 127))
              by_cases hx : x.right = true
              · have HS2 := Lib.hid (HS.out hx)
                unfold MRec.right at hx
                simp only [Bool.and_eq_true, decide_eq_true_eq, inR_iff] at hx
                obtain ⟨⟨⟨x1, x2⟩, x3, x4⟩, x5, x6⟩ := hx
                have e1 : decide ((64 : Int) < (x.key.size : Int)) = false := by simp; omega
                have e2 : decide ((64 : Int) < (x.data.size : Int)) = false := by simp; omega
                have e3 : decide (x.origin < 1) = false := by simp; omega
                have e4 : decide (65535 < x.origin) = false := by simp; omega
                have e5 : decide (x.age < 0) = false := by simp; omega
                have e6 : decide (65535 < x.age) = false := by simp; omega
                clear HS HX
                go_wp2_with fail
                go_roundw
                case rel => exact ⟨k + 1, by go_num, by omega, HS2, G2.out, G1.out⟩
                case measure => simp [intOf]; omega
              · have HN : Hid (m.may = false) := Lib.hid (may_no fun h => hx (by
                  obtain ⟨k1, k2, ⟨k3, k4⟩, k5, k6⟩ := HX.out h
                  unfold MRec.right
                  simp only [Bool.and_eq_true, decide_eq_true_eq, inR_iff]
                  exact ⟨⟨⟨k1, k2⟩, k3, k4⟩, k5, k6⟩))
                have HXR := Lib.hid hx
                clear HS HX hx
                go_wp2_with fail
                all_goals first
                  | (exfalso; exact HXR.out (by
                      unfold MRec.right
                      simp only [Bool.and_eq_true, decide_eq_true_eq, inR_iff]
                      exact ⟨⟨⟨by omega, by omega⟩, by omega, by omega⟩, by omega, by omega⟩))
                  | (go_ret
                     exact ⟨bool_end (by rw [HR.out, HN.out]), G2.out⟩)
            · have HN : Hid (m.may = true) := Lib.hid (Msg.may_mk HF.out HA1.out HA2.out (by have := HA.out; rwa [List.take_of_length_le (by omega)] at this))
              clear HA
              go_wp2_with fail
              go_ret
              exact ⟨bool_end (by rw [HR.out, HN.out]), F6.out⟩

theorem refMay_any (m : Msg) (p : MsgP) (W : World) (h : MsgAt W m p) : Calls Try.prog 49 #[m.val p] W fun e w' => e = .returned (.bool m.may) ∧ Gr W w' := by
  by_cases hf : m.fore
  · exact refMay_yes m p W hf h
  · exact refMay_no m p W hf
end Go.Proofs.Ytkclgemkeifbaaa
