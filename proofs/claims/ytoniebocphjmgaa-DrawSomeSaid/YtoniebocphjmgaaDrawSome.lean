/-
  The walk of DrawSome: it returns true for every input and turns nothing that was there.
-/
import Derived.Test.YtoniebocphjmgaaDrawRef
import Derived.Test.YtoniebocphjmgaaSomeStr
namespace Go.Proofs.Ytoniebocphjmgaa
open Go.RowKit Go.Proofs

theorem one_int_empty (p : Option Addr) (a : Option Addr) (c : Nat) (w : World) : Calls Try.prog 21 #[.pointer p, .slice a 0 c] w fun e w' => e = .returned (.tuple #[.int .i64 0, .bool false]) ∧ w = w' := by
  go_enter Try.func21, Try.ntmps21
  go_wp2
  go_ret2
  exact ⟨rfl, rfl⟩

theorem SlA.drewN {w : World} {a : Option Addr} {n cap : Nat} {cs : List Value} (h : SlA w a n cap cs) (q : Nat) : SlA (w.drewN q) a n cap cs := ⟨h.le, h.max, h.cell⟩

/-- things at places -/
theorem some_places (l : List Int) (ts : List ByteArray) (n : Int) : ∃ g : Int → ByteArray, (∀ (k : Nat) (h : k < ts.length), g k = ts[k]) ∧
    (someS ts.length l ts n).1 = (someS ts.length l (places ts.length) n).1.map g ∧ (someS ts.length l ts n).2 = (someS ts.length l (places ts.length) n).2 := by
  refine ⟨fun i => ts[i.toNat]?.getD ByteArray.empty, fun k h => by simp [h], ?_, ?_⟩
  all_goals
    have e : ts = (places ts.length).map (fun i : Int => ts[i.toNat]?.getD ByteArray.empty) := by
      apply List.ext_getElem
      · simp [places]
      · intro j h1 h2; simp [places, h1]
    have h := someS_map (fun i : Int => ts[i.toNat]?.getD ByteArray.empty) ts.length l (places ts.length) n
    rw [← e] at h
    rw [h]

theorem places_mem {T : Nat} {x : Int} (h : x ∈ places T) : ∃ k : Nat, x = k ∧ k < T := by
  simp only [places, List.mem_map, List.mem_range] at h
  obtain ⟨k, hk, rfl⟩ := h
  exact ⟨k, rfl, hk⟩

set_option maxRecDepth 100000 in
set_option maxHeartbeats 1000000 in
theorem drawSome_walk (al : Option Addr) (cl : Nat) (l : List Int) (at_ : Option Addr) (ct : Nat) (ts : List ByteArray) (n : Int) (W : World)
   (hl : SlA W al l.length cl (l.map (Value.int .u32))) (ht : SlA W at_ ts.length ct (ts.map Value.string)) (hr : ∀ x ∈ l, 0 ≤ x ∧ x < 4294967296) (hn : -9223372036854775808 ≤ n ∧ n ≤ 9223372036854775807) :
    Calls Try.prog 4 #[.slice al l.length cl, .slice at_ ts.length ct, .int .i64 n] W fun e w' => e = .returned (.bool true) ∧ Below W.heap.size W w' := by
  have hl1 := hl.le
  have hl2 := hl.max
  have ht1 := ht.le
  have ht2 := ht.max
  obtain ⟨l', hm1, hl', hl'2, hite, hmin⟩ := cut_list (Value.int .u32) W al cl l 20 20 rfl hl
  obtain ⟨ts', hm2, hts', hts'2, hite2, hmin2⟩ := cut_list Value.string W at_ ct ts 12 12 rfl ht
  have hm3 : l'.length ≤ l.length := by rw [hl']; simp; omega
  have hm4 : ts'.length ≤ ts.length := by rw [hts']; simp; omega
  have hr' : ∀ x ∈ l', 0 ≤ x ∧ x < 4294967296 := fun x hx => hr x (by rw [hl'] at hx; exact List.mem_of_mem_take hx)
  clear hl' hr hl hts' ht
  have HL := Lib.hid hl'2; clear hl'2
  have HT := Lib.hid hts'2; clear hts'2
  have HR := Lib.hid hr'; clear hr'
  have HN := Lib.hid hn; clear hn
  obtain ⟨g, hg, hS1, hS2⟩ := some_places l' ts' n
  have hRl := someS_length ts'.length l' (places ts'.length) n (by simp [places]) HR.out
  have hRm := someS_sub ts'.length l' (places ts'.length) n
  generalize hR : (someS ts'.length l' (places ts'.length) n).1 = R at *
  generalize hR2 : (someS ts'.length l' (places ts'.length) n).2 = R2 at *
  have HS1 := Lib.hid hS1; clear hS1
  have HS2 := Lib.hid hS2; clear hS2
  have HG := Lib.hid hg; clear hg
  have HRm := Lib.hid hRm; clear hRm
  have HR1 := Lib.hid hR; clear hR
  have HR2 := Lib.hid hR2; clear hR2
  have hR12 : R.length ≤ 12 := by rw [hRl]; simp [places]; omega
  clear hRl
  go_enter Try.func4, Try.ntmps4
  go_wp2_with fail
  refine (speaks02 W).mono ?_
  rintro e w1 ⟨rfl, hb1⟩
  go_wp2_with fail
  go_quiet (fail)
  go_wp2_with fail
  have hs1 := hb1.size
  refine (new_any al cl l' _ ((SlA.below hb1 (Nat.le_refl _) HL.out).drewN _) (by omega) HR.out).mono ?_
  rintro e w2 ⟨d, rfl, hd, hD, hb2⟩
  have hb2' : Below W.heap.size W w2 := (below_dn hb1 nq).trans (hb2.mono hs1)
  have hs2 := hb2'.size
  go_wp2_with fail
  refine (some_str d l' at_ ct ts' n w2 hD (SlA.below hb2' (Nat.le_refl _) HT.out) (by omega) HN.out).mono ?_
  rintro e w3 ⟨gv, rfl, hG, hD3, hf3⟩
  have hb3 : Below W.heap.size W w3 := hf3.below hb2' hs2 (by intro k hk; subst hk; exact Nat.le_trans hs1 hd)
  have hs3 := hb3.size
  rw [HS1.out, HS2.out] at *
  obtain ⟨ga, gc, rfl, hgs, _, _⟩ := SlA.of_own hG
  clear hG
  have HGS := Lib.hid hgs; clear hgs
  go_wp2_with fail
  refine (ref_some l' al cl ts'.length n w3 (SlA.below hb3 (Nat.le_refl _) HL.out) HR.out (by omega) (by omega) HN.out).mono ?_
  rintro e w4 ⟨wv, u, rfl, hWv, hu1, hu2, hb4⟩
  rw [HR1.out, HR2.out] at *
  obtain ⟨wa, wc, rfl, hws, _, _⟩ := SlA.of_own hWv
  clear hWv
  have HWS := Lib.hid hws; clear hws
  have HGS4 : Hid (SlA w4 ga _ gc _) := SlA.below hb4 (Nat.le_refl _) HGS.out
  have hD4 : DrawAt w4 d R2 := hD3.keep (S := fun k => w3.heap.size ≤ k) (Fr.of_below hb4 (fun _ _ h => h)) (by intro k hk; have := hD3.lt; omega)
  have hb4' : Below W.heap.size W w4 := hb3.trans (hb4.mono hs3)
  have hu3 : R2.length = l'.length - u := by rw [hu1]; simp
  have HU1 := Lib.hid hu1; clear hu1
  have hgl : (R.map g).length = R.length := by simp
  go_wp2_with fail
  refine (left_n d _ (l'.length - u) hu3 _ hD4).mono ?_
  rintro e w5 ⟨rfl, rfl⟩
  clear hu3 hite hite2 hmin hmin2 HS1 HS2 HR1 HR2 HU1
  go_wp2_with fail
  go_loopw [11] (fun iv wr => ∃ k q : Nat, iv = .int .i64 k ∧ k ≤ R.length ∧ wr = w4.drewN q) (fun iv _ => R.length - (intOf iv).toNat)
  case atStart => exact ⟨0, 0, rfl, Nat.zero_le _, rfl⟩
  case round =>
    obtain ⟨k, q, rfl, hk, rfl⟩ := hrel
    by_cases hkR : k < R.length
    · obtain ⟨x, hx, hxt⟩ := places_mem (HRm.out R[k] (List.getElem_mem hkR))
      obtain ⟨gb, go, rfl, hgc⟩ := HGS4.out.cell k (.string (g R[k])) (by simp [hkR])
      obtain ⟨wb, wo, rfl, hwc⟩ := HWS.out.cell k (.int .i64 R[k]) (by simp [hkR])
      obtain ⟨tb, to_, rfl, htc⟩ := HT.out.cell x (.string ts'[x]) (by simp [hxt])
      have htc4 := (hb4'.cell (lt_of_cell htc)).trans htc
      have hge : g R[k] = ts'[x] := by rw [hx]; exact HG.out x hxt
      rw [hx] at hwc
      rw [hge] at hgc
      have hx0 : (0 : Int) ≤ (x : Int) := by omega
      have hx1 : (x : Int) < (ts'.length : Int) := by omega
      have hk0 : (k : Int) < (R.length : Int) := by omega
      clear hx hge htc
      go_wp2_with fail
      go_quiet (fail)
      go_wp2_with fail
      go_roundw
      case rel => exact ⟨k + 1, _, by go_num, by omega, rfl⟩
      case measure => simp [intOf]; omega
    · go_wp2_with fail
      refine (one_int_empty (some ⟨d, 0, none⟩) _ _ _).mono ?_
      rintro e w6 ⟨rfl, rfl⟩
      go_wp2_with fail
      go_ret
      exact ⟨rfl, (below_dn hb4' q).alloc (by show _ ≤ w4.heap.size; exact hb4'.size) _⟩
end Go.Proofs.Ytoniebocphjmgaa
