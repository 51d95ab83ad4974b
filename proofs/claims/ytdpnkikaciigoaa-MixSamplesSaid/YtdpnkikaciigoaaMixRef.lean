/-
  The document's samples (bellhopref12).
-/
import Derived.Test.YtdpnkikaciigoaaVPLaw
import Derived.Test.YtdpnkikaciigoaaRefSomeG
import Derived.Test.YtdpnkikaciigoaaMixSmp
namespace Go.Proofs.Ytdpnkikaciigoaa
open Go.RowKit Go.Proofs

theorem places_get (t : List Int) : (places t.length).map (fun i => t.getD i.toNat 0) = t := by
  apply List.ext_getElem
  · simp [places]
  · intro i h1 h2
    simp [places, List.getD_eq_getElem?_getD, List.getElem?_eq_getElem h2]
theorem someS_places (ds t : List Int) (n : Int) : (someS t.length ds (places t.length) n).1.map (fun i => t.getD i.toNat 0) = (someS t.length ds t n).1 ∧ (someS t.length ds (places t.length) n).2 = (someS t.length ds t n).2 := by
  have h := someS_map (fun i : Int => t.getD i.toNat 0) t.length ds (places t.length) n
  rw [places_get] at h
  rw [h]
  exact ⟨rfl, rfl⟩
theorem places_mem {t : Nat} {x : Int} (h : x ∈ places t) : ∃ k : Nat, x = k ∧ k < t := by
  obtain ⟨k, hk, rfl⟩ := List.mem_map.1 h
  exact ⟨k, rfl, List.mem_range.1 hk⟩

/-- what is left of a call that gives numbers and a row of draws -/
def SomeOut (da : Option Addr) (l ds' : List Int) (r : Value → Value → Value) (W : World) (e : Ending) (w' : World) : Prop :=
  ∃ a c da' dc', e = .returned (r (.slice a l.length c) (.slice da' ds'.length dc')) ∧ SlA w' a l.length c (ints l) ∧ (∀ q, a = some q → W.heap.size ≤ q.block) ∧ SlA w' da' ds'.length dc' (ds'.map (Value.int .u32)) ∧ DaOf da da' ∧ Gr W w'

set_option maxHeartbeats 4000000 in
set_option maxRecDepth 100000 in
theorem refMixSome_any (ds : List Int) (da : Option Addr) (dc : Nat) (a : Option Addr) (c : Nat) (l t : List Int) (n : Int) (W : World) (hd : SlA W da ds.length dc (ds.map (Value.int .u32))) (h : SlA W a l.length c (ints l)) (hp : t.Perm l) (ht : t.Pairwise (· ≤ ·)) (hl : l.length ≤ 64)
    (hr : ∀ x ∈ ds, 0 ≤ x ∧ x < 4294967296) (hds : ds.length ≤ 1000) (hn : -9223372036854775808 ≤ n ∧ n ≤ 9223372036854775807) :
    Calls Try.prog 83 #[.slice da ds.length dc, .slice a l.length c, .int .i64 n] W (SomeOut da (someS t.length ds t n).1 (someS t.length ds t n).2 (fun x y => .tuple #[x, y]) W) := by
  obtain ⟨i0, hi, hz0, hz1, hz2⟩ := info_parts Try.infoint
  have htl : t.length = l.length := hp.length_eq
  have CS := Lib.hid (refSorted_sl a c l t W h hp ht (by omega))
  have CR := Lib.hid (fun w (f : Gr W w) => ref_some ds da dc t.length n w (hd.keep f (fun _ _ h => h)) hr (by omega) hds hn)
  obtain ⟨hs1, hs2⟩ := someS_places ds t n
  obtain ⟨I, hI⟩ : ∃ I, I = (someS t.length ds (places t.length) n).1 := ⟨_, rfl⟩
  have hIm : ∀ x ∈ I, ∃ k : Nat, x = k ∧ k < t.length := fun x hx => places_mem (someS_sub t.length ds (places t.length) n x (by rw [← hI]; exact hx))
  have hIl : I.length ≤ 64 := by
    rw [hI, someS_length _ _ _ _ (by rw [places_length]; omega) hr, places_length]
    omega
  rw [← hI] at CR hs1
  rw [hs2] at CR
  rw [← hs1]
  generalize (someS t.length ds t n).2 = d2 at CR hs2 ⊢
  have HD := Lib.hid hd
  have HI := Lib.hid hIm
  have e1 := hd.le
  have e2 := hd.max
  have hTl : t.length ≤ 64 := by omega
  clear hI hs1 hs2 hd h hp ht hr hIm htl
  go_enter Try.func83, Try.ntmps83
  go_wp2_with fail
  refine CS.out.mono ?_
  rintro e w1 ⟨a1, c1, rfl, h1, f1⟩
  have H1 := Lib.hid h1
  have F1 := Lib.hid f1
  have e3 := h1.le
  have e4 := h1.max
  clear h1 f1 CS
  go_wp2_with fail
  refine (CR.out w1 F1.out).mono ?_
  rintro e w2 ⟨v2, k, rfl, ho, hdk, hk, hb⟩
  obtain ⟨a2, c2, rfl, h2, -⟩ := SlA.of_own ho
  have F2 := Lib.hid (Gr.trans F1.out (Gr.of_below hb))
  have H2 := Lib.hid h2
  have H1' := Lib.hid (H1.out.keep (Gr.of_below hb) (fun _ _ h => h))
  have HDK := Lib.hid hdk
  have e5 := h2.le
  have e6 := h2.max
  clear h2 ho hdk hb H1 F1 CR
  go_wp2_with fail
  go_loopw [11, 12] (fun ov iv wr => ∃ i : Nat, iv = .int .i64 i ∧ i ≤ I.length ∧ wr.ownsRow w2.heap.size 3 1 ov (I.take i).length (ints ((I.take i).map (fun i => t.getD i.toNat 0))) ∧ Gr w2 wr) (fun _ iv _ => I.length - (intOf iv).toNat)
  case atStart => exact ⟨0, rfl, Nat.zero_le _, World.ownsRow_nil _ _ _ _, Fr.refl _ _⟩
  case round =>
    obtain ⟨i, rfl, hi2, hO, hfr⟩ := hrel
    have HO := Lib.hid hO
    have HF := Lib.hid (Gr.trans F2.out hfr)
    have hsz := hfr.size
    have HF2 := Lib.hid hfr
    by_cases hlt : i < I.length
    · obtain ⟨kk, hkk, hkt⟩ := HI.out I[i] (List.getElem_mem hlt)
      obtain ⟨b2, o2, rfl, hc2⟩ := (H2.out.keep hfr (fun _ _ h => h)).at1 i hlt
      obtain ⟨b1, o1, rfl, hc1⟩ := (H1'.out.keep hfr (fun _ _ h => h)).at1 kk hkt
      have hsn : (I.take (i + 1)).map (fun i => t.getD i.toNat 0) = (I.take i).map (fun i => t.getD i.toNat 0) ++ [t[kk]] := by
        rw [List.take_succ_eq_append_getElem hlt, List.map_append, hkk]
        simp [List.getD_eq_getElem?_getD, List.getElem?_eq_getElem hkt]
      have htl : (I.take i).length ≤ 64 := by simp; omega
      have HSN := Lib.hid hsn
      rw [hkk] at hc2
      clear hO hfr hsn hkk
      generalize t[kk] = tv at *
      go_wp2_with (at_builtin; refine wpList_append_own _ rfl _ _ 22 rfl w2.heap.size 3 i0 (.int .i64 0) 1 8 Try.underlying22 hi hz0 hz1 hz2 rfl (by decide) _ _ _ rfl (HO.out.alloc _) ⟨wr.heap.size, 0, none⟩ 1 1 [.int .i64 tv] rfl rfl (news_one _ _ _) (one_one _ rfl) (by unfold maxLen; omega) (by omega) (by rw [World.size_alloc]; omega) ?_)
      intro v1 w8 ho8 hg8 _
      have f8 : Gr w2 w8 := (HF2.out.alloc _).grown hg8 (fun q hq => .inr (HO.out.lt q hq).1)
      have F8 := Lib.hid f8
      have HO8 := Lib.hid ho8
      clear f8 ho8 hg8
      go_wp2_with fail
      go_roundw
      case rel =>
        refine ⟨i + 1, by go_num, hlt, ?_, F8.out⟩
        have := HO8.out
        rw [show (I.take (i + 1)).length = i + 1 by simp; omega, HSN.out]
        simpa using this
      case measure => simp [intOf]; omega
    · have hi3 : i = I.length := by omega
      have hI2 : I.take i = I := List.take_of_length_le (by omega)
      rw [hI2] at HO
      have hw := HD.out.keep HF.out (fun _ _ h => h)
      clear hO hfr hI2 hi3 H1' H2
      obtain ⟨a9, c9, rfl, hOs, hOp, -⟩ : ∃ a cap, u11 = .slice a I.length cap ∧ SlA wr a I.length cap (ints (I.map (fun i => t.getD i.toNat 0))) ∧ (∀ p, a = some p → w2.heap.size ≤ p.block ∧ p.block < wr.heap.size ∧ p.off = 0) ∧ True := by
        obtain ⟨a, cap, h1, h2, h3, _⟩ := SlA.of_own HO.out
        exact ⟨a, cap, h1, h2, h3, trivial⟩
      cases da with
      | none =>
        obtain rfl : ds = [] := by
          cases ds with
          | nil => rfl
          | cons x r => obtain ⟨b, o, e, _⟩ := hw.cell 0 _ rfl; cases e
        obtain rfl : k = 0 := by simpa using hk
        go_upto_region 8 with fail
        go_quiet (fail)
        have FQ := Lib.hid ((Gr.trans F2.out HF2.out).drewN nq)
        go_wp2_with fail
        go_ret2
        refine ⟨a9, c9, none, dc, ?_, ?_, fun p hp => ?_, ?_, DaOf.refl _, FQ.out⟩
        · rw [HDK.out]; simp
        · rw [List.length_map]; exact hOs.drewN nq
        · have := (hOp p hp).1; have := F2.out.size; omega
        · rw [HDK.out]; exact ⟨Nat.zero_le _, e2, fun j u hj => by simp at hj⟩
      | some q =>
        by_cases hkc : k = dc
        · subst hkc
          go_upto_region 8 with fail
          go_quiet (fail)
          have FQ := Lib.hid ((Gr.trans F2.out HF2.out).drewN nq)
          have hd0 : d2 = [] := by rw [HDK.out]; simp; omega
          subst hd0
          go_wp2_with fail
          go_ret2
          refine ⟨a9, c9, some q, 0, ?_, ?_, fun p hp => ?_, ?_, DaOf.refl _, FQ.out⟩
          · simp
          · rw [List.length_map]; exact hOs.drewN nq
          · have := (hOp p hp).1; have := F2.out.size; omega
          · exact ⟨Nat.le_refl _, by simp, fun j u hj => by simp at hj⟩
        · have hkc2 : k < dc := by omega
          go_upto_region 8 with fail
          go_quiet (fail)
          have FQ := Lib.hid ((Gr.trans F2.out HF2.out).drewN nq)
          have hdl : d2.length = ds.length - k := by rw [HDK.out]; simp
          go_wp2_with fail
          go_ret2
          refine ⟨a9, c9, some (q.add k), dc - k, ?_, ?_, fun p hp => ?_, ?_, fun p hp => ⟨q, rfl, by cases hp; unfold Addr.add; split <;> rfl⟩, FQ.out⟩
          · rw [hdl]; simp
          · rw [List.length_map]; exact hOs.drewN nq
          · have := (hOp p hp).1; have := F2.out.size; omega
          · refine ⟨by omega, by omega, fun j u hj => ?_⟩
            obtain ⟨b, o, e, hc⟩ := (hw.drewN nq).cell (k + j) u (by rw [HDK.out] at hj; simpa using hj)
            cases e
            exact ⟨b, o + k, by rw [Addr.add_lit], by rw [Nat.add_assoc]; exact hc⟩
end Go.Proofs.Ytdpnkikaciigoaa
