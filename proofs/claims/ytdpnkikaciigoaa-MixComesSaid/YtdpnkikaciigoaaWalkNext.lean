/-
  The document's next node of a walk.
-/
import Derived.Test.YtdpnkikaciigoaaViewAp
import Derived.Test.YtdpnkikaciigoaaSetSort
namespace Go.Proofs.Ytdpnkikaciigoaa
open Go.RowKit Go.Proofs

def keepP (a b : Int) (x : Int) : Bool := !(x != a && x != b)
/-- one of the active nodes but two, by a number; 0: there is none -/
def nextV (M : List Int) (a b num : Int) : Int := if kept (keepP a b) M = [] then 0 else (kept (keepP a b) M).getD (num % ((kept (keepP a b) M).length : Int)).toNat 0

set_option maxHeartbeats 4000000 in
set_option maxRecDepth 100000 in
theorem refNext_any (B : Nat) (v : Value) (M : List Int) (a b num : Int) (W : World) (h : W.ownsRow B 3 1 v M.length (ints M)) (hM : M.Pairwise (· ≤ ·)) (hM64 : M.length ≤ 64) (hn0 : 0 ≤ num) (hn1 : num < 4294967296) :
    Calls Try.prog 18 #[v, .int .i64 a, .int .i64 b, .int .u32 num] W fun e w' => e = .returned (.int .i64 (nextV M a b num)) ∧ Gr W w' := by
  obtain ⟨i0, hi, hz0, hz1, hz2⟩ := info_parts Try.infoint
  have CS := Lib.hid (refSorted_own B v M M W h (List.Perm.refl _) hM (by omega))
  obtain ⟨nx, hnx⟩ : ∃ nx, nx = nextV M a b num := ⟨_, rfl⟩
  have HNX := Lib.hid hnx
  rw [← hnx]
  clear h hM hnx
  go_enter Try.func18, Try.ntmps18
  go_wp2_with fail
  refine CS.out.mono ?_
  rintro e w2 ⟨sa, sc, rfl, hs, f2⟩
  have HM := Lib.hid hs
  have F2 := Lib.hid f2
  have e1 := hs.le
  have e2 := hs.max
  clear f2 hs CS
  go_wp2_with fail
  go_loopw [9, 11] (fun rv kv wr => ∃ k : Nat, kv = .int .i64 k ∧ k ≤ M.length ∧ wr.ownsRow w2.heap.size 3 1 rv (kept (keepP a b) (M.take k)).length (ints (kept (keepP a b) (M.take k))) ∧ Gr w2 wr) (fun _ kv _ => M.length - (intOf kv).toNat)
  case atStart => exact ⟨0, rfl, Nat.zero_le _, World.ownsRow_nil _ _ _ _, Fr.refl _ _⟩
  case round =>
    obtain ⟨k, rfl, hk, hO, hfr⟩ := hrel
    by_cases hkl : k < M.length
    · have hks := kept_snoc (keepP a b) M k hkl
      obtain ⟨bm, om, rfl, hcm⟩ := (HM.out.keep hfr (fun _ _ h => h)).int k hkl
      have hRl : (kept (keepP a b) (M.take k)).length ≤ 64 := Nat.le_trans (List.length_filter_le _ _) (by simp; omega)
      have HO := Lib.hid hO; clear hO
      have HFR := Lib.hid hfr; clear hfr
      have hsz := HFR.out.size
      by_cases he : M[k] = a
      · have hne : (M[k] != a) = false := by simpa using he
        have HKS : Hid (kept (keepP a b) (M.take (k + 1)) = kept (keepP a b) (M.take k)) := Lib.hid (by rw [hks, if_pos (by simp [keepP, he])])
        clear hks he
        go_wp2_with fail
        go_roundw
        case rel => exact ⟨k + 1, by go_num, by omega, by rw [HKS.out]; exact HO.out, HFR.out⟩
        case measure => simp [intOf]; omega
      · by_cases he5 : M[k] = b
        · have hne : (M[k] != a) = true := by simpa using he
          have hne5 : (M[k] != b) = false := by simpa using he5
          have HKS : Hid (kept (keepP a b) (M.take (k + 1)) = kept (keepP a b) (M.take k)) := Lib.hid (by rw [hks, if_pos (by simp [keepP, he5])])
          clear hks he he5
          go_wp2_with fail
          go_roundw
          case rel => exact ⟨k + 1, by go_num, by omega, by rw [HKS.out]; exact HO.out, HFR.out⟩
          case measure => simp [intOf]; omega
        · have hne : (M[k] != a) = true := by simpa using he
          have hne5 : (M[k] != b) = true := by simpa using he5
          have HKS : Hid (kept (keepP a b) (M.take (k + 1)) = kept (keepP a b) (M.take k) ++ [M[k]]) := Lib.hid (by rw [hks, if_neg (by simp [keepP, he, he5])])
          clear hks he he5
          generalize kept (keepP a b) (M.take k) = R at *
          generalize M[k] = y at *
          go_wp2_with (at_builtin; refine wpList_append_own _ rfl _ _ 22 rfl w2.heap.size 3 i0 (.int .i64 0) 1 8 Try.underlying22 hi hz0 hz1 hz2 rfl (by decide) _ _ _ rfl (HO.out.alloc _) ⟨wr.heap.size, 0, none⟩ 1 1 [.int .i64 y] rfl rfl (news_one _ _ _) (one_one _ rfl) (by unfold maxLen; omega) (by omega) (by rw [World.size_alloc]; omega) ?_)
          intro v1 w8 hown1 hgrow1 _
          have hf8 : Gr w2 w8 := (HFR.out.alloc _).grown hgrow1 (fun q hq => .inr ((HO.out.lt q hq).1))
          have HO1 := Lib.hid hown1
          have HF8 := Lib.hid hf8
          clear hown1 hgrow1 hf8
          go_wp2_with fail
          go_roundw
          case rel => exact ⟨k + 1, by go_num, by omega, by rw [HKS.out]; simpa using HO1.out, HF8.out⟩
          case measure => simp [intOf]; omega
    · have hkM : kept (keepP a b) (M.take k) = kept (keepP a b) M := by rw [List.take_of_length_le (by omega)]
      rw [hkM] at hO
      have hRl : (kept (keepP a b) M).length ≤ 64 := Nat.le_trans (List.length_filter_le _ _) (by omega)
      unfold nextV at HNX
      clear hkM
      generalize kept (keepP a b) M = R at *
      obtain ⟨ra, rc, rfl, hsR, -⟩ := SlA.of_own hO
      have l1 := hsR.le
      have l2 := hsR.max
      have FX := Lib.hid (Gr.trans F2.out hfr)
      clear hO hfr hk
      by_cases hR : R = []
      · subst hR
        obtain rfl : nx = 0 := by rw [HNX.out, if_pos rfl]
        simp only [List.length_nil]
        go_wp2_with fail
        go_ret
        exact ⟨rfl, FX.out⟩
      · have hpos : 0 < R.length := List.length_pos_iff.2 hR
        obtain ⟨j, hj, hjl⟩ : ∃ j : Nat, num % (R.length : Int) = j ∧ j < R.length := by
          have h1 := Int.emod_lt_of_pos num (show (0 : Int) < R.length by omega)
          have h2 := Int.emod_nonneg num (show (R.length : Int) ≠ 0 by omega)
          exact ⟨(num % (R.length : Int)).toNat, by omega, by omega⟩
        have htm : num.tmod (R.length : Int) = j := by rw [Int.tmod_eq_emod_of_nonneg hn0]; exact hj
        obtain ⟨b1, o1, rfl, hc⟩ := hsR.int j hjl
        have hnxj : nx = R[j] := by
          rw [HNX.out, if_neg hR, hj, List.getD_eq_getElem?_getD]
          simp only [Int.toNat_natCast]
          rw [List.getElem?_eq_getElem hjl]; rfl
        have HNJ := Lib.hid hnxj
        have hne0 : ((R.length : Int) == 0) = false := by simp; omega
        have hjz : (j : Int) < (R.length : Int) := by omega
        clear hnxj hR hj HNX hsR
        go_wp2_with fail
        go_ret
        exact ⟨by rw [HNJ.out]; rfl, FX.out⟩
end Go.Proofs.Ytdpnkikaciigoaa
