/-
  The walk of DrawAll: it returns true for every input and turns nothing that was there.
-/
import Derived.Test.YtoniebocphjmgaaDrawA
import Derived.Test.YtoniebocphjmgaaSomeInt
namespace Go.Proofs.Ytoniebocphjmgaa
open Go.RowKit Go.Proofs

theorem one_int_any (d : Nat) (l : List Int) (a : Option Addr) (c : Nat) (cs : List Int) (n : Nat) (hn : cs.length = n) (w : World) (hD : DrawAt w d l) (h : SlA w a n c (cs.map (Value.int .i64))) (hbd : ∀ p, a = some p → p.block ≠ d) (k : Nat) (hk : belN l n = k) (x : Int) (hx : cs[k]? = some x) :
    Calls Try.prog 21 #[.pointer (some ⟨d, 0, none⟩), .slice a n c] w fun e w' => e = .returned (.tuple #[.int .i64 x, .bool true]) ∧ Fr (· = d) w w' := by
  have hkl := (List.getElem?_eq_some_iff.1 hx).1
  have hbl := (belN_eq l n hD.range (by omega)).1
  rw [hk] at hbl
  obtain ⟨b, o, rfl, hc⟩ := h.cell k (.int .i64 x) (by simp [hx])
  have hle := h.le
  have hmx := h.max
  have hkn : k < n := by omega
  have HB := Lib.hid hbl; clear hbl
  have h0 : ((n : Int) == 0) = false := beq_eq_false_iff_ne.2 (by omega)
  have hbd' : b ≠ d := hbd _ rfl
  clear h hk hbd hx hkl hn
  go_enter Try.func21, Try.ntmps21
  go_wp2_with fail
  refine (below_any d l n w hD).mono ?_
  rw [HB.out]
  rintro e w1 ⟨rfl, _, hf⟩
  have hc1 := hf.cell hc hbd'
  go_wp2_with fail
  go_ret2
  exact ⟨rfl, hf⟩

theorem one_int_none (p : Option Addr) (a : Option Addr) (c : Nat) (w : World) : Calls Try.prog 21 #[.pointer p, .slice a 0 c] w fun e w' => e = .returned (.tuple #[.int .i64 0, .bool false]) ∧ w = w' := by
  go_enter Try.func21, Try.ntmps21
  go_wp2
  go_ret2
  exact ⟨rfl, rfl⟩

/-- the things: 100, 101 and so on -/
def hundreds (T : Nat) : List Int := (List.range T).map fun k : Nat => 100 + (k : Int)
theorem hundreds_length (T : Nat) : (hundreds T).length = T := by simp [hundreds]
theorem hundreds_succ (k : Nat) : hundreds (k + 1) = hundreds k ++ [100 + (k : Int)] := by simp [hundreds, List.range_succ]
theorem hundreds_mem {T : Nat} {x : Int} (h : x ∈ hundreds T) : 100 ≤ x ∧ x < 100 + (T : Int) := by
  simp only [hundreds, List.mem_map, List.mem_range] at h
  obtain ⟨k, hk, rfl⟩ := h
  omega
theorem hundreds_nodup (T : Nat) : (hundreds T).Nodup := by
  unfold hundreds
  rw [List.nodup_iff_pairwise_ne, List.pairwise_map]
  refine (List.nodup_range (n := T)).imp ?_
  intro a b h e; exact h (by omega)

set_option maxRecDepth 100000 in
set_option maxHeartbeats 1000000 in
theorem drawAll_walk (al : Option Addr) (cl : Nat) (l : List Int) (ct : Int) (n : Int) (W : World)
   (hl : SlA W al l.length cl (l.map (Value.int .u32))) (hr : ∀ x ∈ l, 0 ≤ x ∧ x < 4294967296) (hct : 0 ≤ ct ∧ ct ≤ 255) (hn : -9223372036854775808 ≤ n ∧ n ≤ 9223372036854775807) :
    Calls Try.prog 5 #[.slice al l.length cl, .int .u8 ct, .int .i64 n] W fun e w' => e = .returned (.bool true) ∧ Below W.heap.size W w' := by
  obtain ⟨i0, hi, hz0, hz1, hz2⟩ := info_parts Try.infoint
  have hl1 := hl.le
  have hl2 := hl.max
  obtain ⟨l', hm1, hl', hl'2, hite, hmin⟩ := cut_list (Value.int .u32) W al cl l 20 20 rfl hl
  have hm3 : l'.length ≤ l.length := by rw [hl']; simp; omega
  have hr' : ∀ x ∈ l', 0 ≤ x ∧ x < 4294967296 := fun x hx => hr x (by rw [hl'] at hx; exact List.mem_of_mem_take hx)
  clear hl' hr hl
  have HL := Lib.hid hl'2; clear hl'2
  have HR := Lib.hid hr'; clear hr'
  have HN := Lib.hid hn
  have hn1 := hn.1
  have hn2 := hn.2
  clear hn
  obtain ⟨hct1, hct2⟩ := hct
  obtain ⟨T, hT⟩ : ∃ T : Nat, ct % 13 = T := ⟨(ct % 13).toNat, by omega⟩
  have hT12 : T ≤ 12 := by omega
  have hGl := someS_length T l' (hundreds T) n (by rw [hundreds_length]; omega) HR.out
  have hGm := someS_sub T l' (hundreds T) n
  have hGn := someS_nodup T l' (hundreds T) n (hundreds_nodup T)
  have hG0 : ∀ x r, (someS T l' (hundreds T) n).1 = x :: r → (hundreds T)[belN l' T]? = some x := by
    intro x r hx
    by_cases hc : 0 < n ∧ 0 < (hundreds T).length
    · have hb := belN_eq l' (hundreds T).length HR.out hc.2
      have h1 := someS_step (T - 1) l' (hundreds T) n hc.1 _ rfl hb.2
      rw [hundreds_length] at hc
      rw [show T - 1 + 1 = T by omega] at h1
      rw [h1] at hx
      injection hx with h2 _
      rw [hundreds_length] at hb
      rw [List.getElem?_eq_getElem (by rw [hundreds_length]; exact hb.2), ← h2]
      simp [hundreds_length]
    · rw [someS_stop _ _ _ _ hc] at hx; cases hx
  rw [hundreds_length] at hGl
  generalize hG : someS T l' (hundreds T) n = G at *
  have HG := Lib.hid hG; clear hG
  have HGm := Lib.hid hGm; clear hGm
  have HGn := Lib.hid hGn; clear hGn
  have HG0 := Lib.hid hG0; clear hG0
  have hG12 : G.1.length ≤ 12 := by omega
  go_enter Try.func5, Try.ntmps5
  go_wp2_with fail
  refine (speaks02 W).mono ?_
  rintro e w1 ⟨rfl, hb1⟩
  have hs1 := hb1.size
  have HGl := Lib.hid hGl; clear hGl
  go_wp2_with fail
  go_loopw [7, 8] (fun lv iv wr => ∃ k : Nat, iv = .int .i64 k ∧ k ≤ T ∧ wr.ownsRow w1.heap.size 3 1 lv k ((hundreds k).map (Value.int .i64)) ∧ Below W.heap.size W wr ∧ w1.heap.size ≤ wr.heap.size) (fun _ iv _ => T - (intOf iv).toNat)
  case atStart => exact ⟨0, rfl, Nat.zero_le _, World.ownsRow_nil _ _ _ _, hb1, Nat.le_refl _⟩
  case round =>
    obtain ⟨k, rfl, hk, hO, hb, hsw⟩ := hrel
    have hs := hb.size
    have HO := Lib.hid hO; clear hO
    by_cases hkT : k < T
    · go_wp2_with (at_builtin; refine wpList_append_own _ rfl _ _ 23 rfl w1.heap.size 3 i0 (.int .i64 0) 1 8 Try.underlying23 hi hz0 hz1 hz2 rfl (by decide) _ _ _ rfl (HO.out.alloc _) ⟨wr.heap.size, 0, none⟩ 1 1 [.int .i64 (100 + (k : Int))] rfl rfl (news_one _ _ _) (one_one _ rfl) (by unfold maxLen; omega) (by omega) (by rw [World.size_alloc]; omega) ?_)
      intro v1 w2 hown1 hgrow1 _
      have hg1 : wr.heap.size + 1 ≤ w2.heap.size := by have := hgrow1.size; simpa using this
      have hb2 : Below W.heap.size W w2 := (hb.alloc hs _).grown hgrow1 (by simp; omega) (fun q hq => by have := (HO.out.lt q hq).1; omega)
      have hpk := hundreds_succ k
      have HO1 := Lib.hid hown1; clear hown1 hgrow1
      have HPK := Lib.hid hpk; clear hpk
      go_wp2_with fail
      go_roundw
      case rel => exact ⟨k + 1, by go_num, by omega, by rw [HPK.out]; simpa using HO1.out, hb2, by omega⟩
      case measure => simp [intOf]; omega
    · obtain rfl : k = T := by omega
      obtain ⟨ta, tc, rfl, hts, htp, _⟩ := SlA.of_own HO.out
      have hts1 := hts.le
      have hts2 := hts.max
      have htp' : ∀ p, ta = some p → p.block < wr.heap.size := fun p hp => (htp p hp).2.1
      have HTS := Lib.hid hts; clear hts
      have HTP := Lib.hid htp'; clear htp htp' hkT
      go_wp2_with fail
      refine (new_any al cl l' wr (SlA.below hb (Nat.le_refl _) HL.out) (by omega) HR.out).mono ?_
      rintro e w3 ⟨d, rfl, hd, hD, hb3⟩
      have hb3' : Below W.heap.size W w3 := hb.trans (hb3.mono hs)
      have hs3 := hb3.size
      have HTS3 : Hid (SlA w3 ta _ tc _) := SlA.below hb3 (Nat.le_refl _) HTS.out
      go_wp2_with fail
      have hsome := some_int d l' ta tc (hundreds k) n w3 hD (by rw [hundreds_length]; exact HTS3.out) (by rw [hundreds_length]; omega) HN.out
      rw [hundreds_length, HG.out] at hsome
      refine hsome.mono ?_
      clear hsome
      rintro e w4 ⟨gv, rfl, hGv, _, hf4⟩
      have hs4 := hf4.size
      have hb4 : Below W.heap.size W w4 := hf4.below hb3' (by omega) (by intro q hq; omega)
      obtain ⟨ga, gc, rfl, hgs, hgp, _⟩ := SlA.of_own hGv
      clear hGv
      have hgp' : ∀ p, ga = some p → w3.heap.size ≤ p.block ∧ p.block < w4.heap.size := fun p hp => ⟨(hgp p hp).1, (hgp p hp).2.1⟩
      have HGS := Lib.hid hgs; clear hgs
      have HGP := Lib.hid hgp'; clear hgp hgp'
      have HTS4 : Hid (SlA w4 ta _ tc _) := HTS3.out.keep hf4 (fun p hp => by have := HTP.out p hp; omega)
      obtain ⟨m1, hm⟩ : ∃ m1 : Nat, max n 0 = m1 := ⟨(max n 0).toNat, by omega⟩
      have hmax : (if n < 0 then 0 else n) = (m1 : Int) := by split <;> omega
      have hG1 : min (m1 : Int) (k : Int) = (G.1.length : Int) := by have := HGl.out; omega
      have hG2 : (if (k : Int) < (m1 : Int) then (k : Int) else (m1 : Int)) = (G.1.length : Int) := by have := HGl.out; split <;> omega
      generalize G.1 = gl at *
      go_wp2_with fail
      clear hite hmin hmax hm hG1 hG2 HGl
      go_loopw [10] (fun iv w5 => ∃ i q : Nat, iv = .int .i64 i ∧ i ≤ gl.length ∧ w5 = w4.drewN q) (fun iv _ => gl.length - (intOf iv).toNat)
      case atStart => exact ⟨0, 0, rfl, Nat.zero_le _, rfl⟩
      case round =>
        obtain ⟨i, q, rfl, hik, rfl⟩ := hrel
        by_cases hig : i < gl.length
        · obtain ⟨gb, go, rfl, hgc⟩ := HGS.out.cell i (.int .i64 gl[i]) (by simp [hig])
          have hx := hundreds_mem (HGm.out gl[i] (List.getElem_mem hig))
          have hx1 := hx.1
          have hx2 := hx.2
          clear hx
          have hx3 : ¬ gl[i] < 100 := by omega
          go_wp2_with fail
          go_loopw [11] (fun jv w5 => ∃ j q : Nat, jv = .int .i64 j ∧ j ≤ i ∧ w5 = w4.drewN q) (fun jv _ => i - (intOf jv).toNat)
          case atStart => exact ⟨0, q, rfl, Nat.zero_le _, rfl⟩
          case round =>
            obtain ⟨j, q2, rfl, hji, rfl⟩ := hrel
            by_cases hjl : j < i
            · obtain ⟨gb', go', e, hgj⟩ := HGS.out.cell j (.int .i64 (gl[j]'(by omega))) (by simp [show j < gl.length by omega])
              cases e
              have hne : ((gl[j]'(by omega) : Int) == gl[i]) = false := by
                rw [beq_eq_false_iff_ne]
                intro e
                have := (List.getElem_inj (h₀ := by omega) (h₁ := hig) HGn.out).1 e
                omega
              have hj0 : (j : Int) < (gl.length : Int) := by omega
              have hi0 : (i : Int) < (gl.length : Int) := by omega
              go_wp2_with fail
              go_quiet (fail)
              go_wp2_with fail
              go_roundw
              case rel => exact ⟨j + 1, _, by go_num, by omega, rfl⟩
              case measure => simp [intOf]; omega
            · go_wp2_with fail
              go_roundw
              case rel => exact ⟨i + 1, q2, by go_num, by omega, rfl⟩
              case measure => simp [intOf]; omega
        · go_wp2_with fail
          refine (new_any al cl l' _ ((SlA.below hb4 (Nat.le_refl _) HL.out).drewN q) (by omega) HR.out).mono ?_
          rintro e w6 ⟨d2, rfl, hd2, hD2, hb6⟩
          have hb6' : Below W.heap.size W w6 := (below_dn hb4 q).trans (hb6.mono hb4.size)
          have hd2' : w4.heap.size ≤ d2 := hd2
          have hs6 : w4.heap.size ≤ w6.heap.size := hb6.size
          have HTS6 : Hid (SlA w6 ta _ tc _) := SlA.below hb6 (Nat.le_refl _) (HTS4.out.drewN q)
          have hWs := hb6'.size
          by_cases hk0 : 0 < k
          · have hb := (belN_eq l' k HR.out hk0).2
            go_wp2_with fail
            obtain ⟨x0, hx0⟩ : ∃ x0, (hundreds k)[belN l' k]? = some x0 := ⟨_, List.getElem?_eq_getElem (by rw [hundreds_length]; exact hb)⟩
            have HX0 := Lib.hid hx0; clear hx0 hb
            refine (one_int_any d2 l' ta tc (hundreds k) k (hundreds_length k) w6 hD2 HTS6.out (fun p hp => by have := HTP.out p hp; omega) (belN l' k) rfl x0 HX0.out).mono ?_
            rintro e w7 ⟨rfl, hf7⟩
            have hb7 : Below W.heap.size W w7 := hf7.below hb6' (by omega) (by intro x hx; omega)
            cases gl with
            | nil =>
              go_wp2_with fail
              go_ret
              exact ⟨rfl, hb7⟩
            | cons x r =>
              have hxe := HG0.out x r rfl
              rw [HX0.out] at hxe
              injection hxe with hxe
              subst hxe
              obtain ⟨gb, go, rfl, hgc⟩ := HGS.out.cell 0 (.int .i64 x0) rfl
              have hgp := HGP.out _ rfl
              have hg6 : w6.cell? ⟨gb, go + 0, none⟩ = some (.int .i64 x0) := (hb6.cell (p := ⟨gb, go + 0, none⟩) hgp.2).trans hgc
              have hgp2 : gb < w4.heap.size := hgp.2
              have hg7 := hf7.cell hg6 (by intro e; simp only at e; omega)
              have hg8 : w7.cell? ⟨gb, go, none⟩ = some (.int .i64 x0) := hg7
              clear hg6 hg7 hgc hgp
              go_wp2_with fail
              go_ret
              exact ⟨rfl, hb7⟩
          · obtain rfl : k = 0 := by omega
            have hgl0 : gl = [] := by
              cases gl with
              | nil => rfl
              | cons x r => have := hundreds_mem (HGm.out x (by simp)); omega
            subst hgl0
            go_wp2_with fail
            refine (one_int_none _ _ _ _).mono ?_
            rintro e w7 ⟨rfl, rfl⟩
            go_wp2_with fail
            go_ret
            exact ⟨rfl, hb6'⟩
end Go.Proofs.Ytoniebocphjmgaa
