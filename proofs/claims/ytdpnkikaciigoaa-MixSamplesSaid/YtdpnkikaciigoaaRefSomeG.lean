/-
  The contract of the reference's Some (bellhopref02): it returns what someS computes on the places.
-/
import Derived.Test.YtdpnkikaciigoaaDrawG
import Derived.Test.YtdpnkikaciigoaaOwn
import Derived.Test.YtdpnkikaciigoaaSlcInt
import Derived.Test.YtdpnkikaciigoaaRegionX
namespace Go.Proofs.Ytdpnkikaciigoaa
open Go.RowKit Go.Proofs

def places (T : Nat) : List Int := (List.range T).map fun k : Nat => (k : Int)
theorem places_length (T : Nat) : (places T).length = T := by simp [places]
theorem places_succ (k : Nat) : places (k + 1) = places k ++ [(k : Int)] := by simp [places, List.range_succ]

theorem SlA.cellAt {w : World} {b n cap : Nat} {cs : List Value} (h : SlA w (some ⟨b, 0, none⟩) n cap cs) {k : Nat} (u : Value) (hk : cs[k]? = some u) : w.cell? ⟨b, k, none⟩ = some u := by
  obtain ⟨b', o, e, hc⟩ := h.cell k u hk
  cases e
  rw [Nat.zero_add] at hc; exact hc

theorem ref_grow {W wr w1 : World} {base e n m : Nat} {lv ov : Value} {x : Obj} {xs ys : List Value} (h1 : wr.ownsRow W.heap.size e 1 lv n xs) (h2 : wr.ownsRow W.heap.size base 1 ov m ys) (hne : ∀ q, lv.ownBlock = some q → ov.ownBlock ≠ some q) (hb : Below W.heap.size W wr)
    (hg : (wr.alloc x).grownBy w1 ov.ownBlock) : w1.ownsRow W.heap.size e 1 lv n xs ∧ Below W.heap.size W w1 := by
  have hs := hb.size
  refine ⟨(h1.alloc x).kept hg ?_, (hb.alloc hs x).grown hg (by simp; omega) (fun q hq => (h2.lt q hq).1)⟩
  cases hl : lv.ownBlock with
  | none => exact .inl rfl
  | some q => exact .inr (Ne.symm (hne q hl))

theorem ref_meas {lf : List Int} {kk b e : Nat} {v5 : Value} {w5 : World} {cs : List Value} {g : Option Addr} {c1 : Nat} (hkl : kk < lf.length) (h : w5.ownsRow b e 1 v5 (kk + (lf.length - (kk + 1))) cs) : slLen v5 < slLen (.slice g lf.length c1) := by
  obtain ⟨a', c', rfl, _⟩ := SlA.of_own h
  simp [slLen]; omega

theorem ref_close {w w1 w4 w5 : World} {lf out l : List Int} {kk k u u' e c2' : Nat} {n : Int} {v4 v5 : Value} {a2' : Option Addr} {vs : List Value} (hkl : kk < lf.length) (hlo : lf.length + out.length ≤ k) (hb4 : Below w.heap.size w w4) (hs3 : w.heap.size ≤ w1.heap.size)
    (hOut : w1.ownsRow w.heap.size e 1 (.slice a2' (out.length + 1) c2') (out.length + 1) (out.map (Value.int .i64) ++ [.int .i64 lf[kk]]))
    (hOut4 : w4.ownsRow w.heap.size e 1 (.slice a2' (out.length + 1) c2') (out.length + 1) (out.map (Value.int .i64) ++ [.int .i64 lf[kk]]))
    (hown4 : w4.ownsRow w1.heap.size e 1 v4 kk vs)
    (hown5 : w5.ownsRow w1.heap.size e 1 v5 (kk + (lf.length - (kk + 1))) (List.take kk (lf.map (Value.int .i64)) ++ List.drop (kk + 1) (lf.map (Value.int .i64)))) (hg : w4.grownBy w5 v4.ownBlock)
    (hS : someS k l (places k) n = (out ++ (someS lf.length (l.drop u) lf (n - out.length)).1, (someS lf.length (l.drop u) lf (n - out.length)).2)) (hn : 0 < n - out.length)
    (hB : bel (l.drop u) lf.length = ((kk : Int), l.drop u')) :
    (lf.eraseIdx kk).length + (out ++ [lf[kk]]).length ≤ k ∧ slLen v5 = (lf.eraseIdx kk).length ∧ slLen (.slice a2' (out.length + 1) c2') = (out ++ [lf[kk]]).length ∧ w5.ownsRow w.heap.size e 1 v5 (lf.eraseIdx kk).length ((lf.eraseIdx kk).map (Value.int .i64)) ∧
      w5.ownsRow w.heap.size e 1 (.slice a2' (out.length + 1) c2') (out ++ [lf[kk]]).length ((out ++ [lf[kk]]).map (Value.int .i64)) ∧ Below w.heap.size w w5 ∧ (∀ q, v5.ownBlock = some q → (Value.slice a2' (out.length + 1) c2').ownBlock ≠ some q) ∧
      someS k l (places k) n = (out ++ [lf[kk]] ++ (someS (lf.eraseIdx kk).length (l.drop u') (lf.eraseIdx kk) (n - (out ++ [lf[kk]]).length)).1, (someS (lf.eraseIdx kk).length (l.drop u') (lf.eraseIdx kk) (n - (out ++ [lf[kk]]).length)).2) := by
  have hle : (lf.eraseIdx kk).length = lf.length - 1 := by rw [List.length_eraseIdx, if_pos hkl]
  have hcs : List.take kk (lf.map (Value.int .i64)) ++ List.drop (kk + 1) (lf.map (Value.int .i64)) = (lf.eraseIdx kk).map (Value.int .i64) := by rw [← List.map_take, ← List.map_drop, ← List.map_append, List.eraseIdx_eq_take_drop_succ]
  rw [hcs, show kk + (lf.length - (kk + 1)) = lf.length - 1 by omega] at hown5
  have hlt : ∀ q, (Value.slice a2' (out.length + 1) c2').ownBlock = some q → q < w1.heap.size := fun q hq => (hOut.lt q hq).2
  refine ⟨by simp [hle]; omega, ?_, by simp [slLen], by rw [hle]; exact own_base hown5 hs3, ?_, ?_, ?_, ?_⟩
  · obtain ⟨a', c', rfl, _⟩ := SlA.of_own hown5
    rw [hle]; rfl
  · have := hOut4.kept hg (by
      cases ho : (Value.slice a2' (out.length + 1) c2').ownBlock with
      | none => exact .inl rfl
      | some q => exact .inr (fun he => by have h1 := (hown4.lt q he.symm).1; have h2 := hlt q ho; omega))
    simpa using this
  · exact hb4.grown hg hb4.size (fun q hq => by have := (hown4.lt q hq).1; omega)
  · intro q hq hq'
    have h1 := (hown5.lt q hq).1
    have h2 := hlt q hq'
    omega
  · have hst := someS_step (lf.length - 1) (l.drop u) lf (n - out.length) hn kk (by unfold belN; rw [hB]; rfl) hkl
    rw [show lf.length - 1 + 1 = lf.length by omega] at hst
    rw [hS, hst, hB, hle]
    rw [show n - ((out ++ [lf[kk]]).length : Int) = n - out.length - 1 by simp; omega]
    simp

set_option maxRecDepth 100000 in
set_option maxHeartbeats 1000000 in
theorem ref_some (l : List Int) (a : Option Addr) (cap T : Nat) (n : Int) (w : World) (h : SlA w a l.length cap (l.map (Value.int .u32))) (hr : ∀ x ∈ l, 0 ≤ x ∧ x < 4294967296) (hT : T ≤ 1000) (hlm : l.length ≤ 1000) (hn : -9223372036854775808 ≤ n ∧ n ≤ 9223372036854775807) :
    Calls Try.prog 107 #[.slice a l.length cap, .int .i64 T, .int .i64 n] w fun e w' => ∃ (v : Value) (u : Nat), e = .returned (.tuple #[v, .int .i64 u]) ∧ w'.ownsRow w.heap.size 3 1 v (someS T l (places T) n).1.length ((someS T l (places T) n).1.map (Value.int .i64)) ∧
      (someS T l (places T) n).2 = l.drop u ∧ u ≤ l.length ∧ Below w.heap.size w w' := by
  obtain ⟨i0, hi, hz0, hz1, hz2⟩ := info_parts Try.infoint
  have hn1 := hn.1
  have hn2 := hn.2
  clear hn
  have H := Lib.hid h; clear h
  have HR := Lib.hid hr; clear hr
  go_enter Try.func107, Try.ntmps107
  go_wp2_with fail
  go_loopw [8, 10] (fun lv iv wr => ∃ k : Nat, iv = .int .i64 k ∧ k ≤ T ∧ wr.ownsRow w.heap.size 3 1 lv k ((places k).map (Value.int .i64)) ∧ Below w.heap.size w wr) (fun _ iv _ => T - (intOf iv).toNat)
  case atStart => exact ⟨0, rfl, Nat.zero_le _, World.ownsRow_nil _ _ _ _, Below.refl _ _⟩
  case round =>
    obtain ⟨k, rfl, hk, hO, hb⟩ := hrel
    have hs := hb.size
    have HO := Lib.hid hO; clear hO
    by_cases hkT : k < T
    · have hpl : (places k).length = k := by simp [places]
      go_wp2_with (at_builtin; refine wpList_append_own _ rfl _ _ 22 rfl w.heap.size 3 i0 (.int .i64 0) 1 8 Try.underlying22 hi hz0 hz1 hz2 rfl (by decide) _ _ _ rfl (HO.out.alloc _) ⟨wr.heap.size, 0, none⟩ 1 1 [.int .i64 k] rfl rfl ?c1 ?c2 ?c3 ?c4 ?c5 ?_)
      case c1 =>
        intro j u hj
        match j, hj with
        | 0, hj =>
          simp at hj; subst hj
          rw [Addr.add_lit, Nat.add_zero, World.cell?_alloc_at _ _ _ _ rfl]; rfl
      case c2 => intro u hu; simp at hu; subst hu; rfl
      case c3 => unfold maxLen; omega
      case c4 => omega
      case c5 => simp; omega
      intro v1 w1 hown1 hgrow1 _
      have hb1 : Below w.heap.size w w1 := (hb.alloc hs _).grown hgrow1 (by simp; omega) (fun q hq => (HO.out.lt q hq).1)
      have hpk := places_succ k
      have HO1 := Lib.hid hown1; clear hown1 hgrow1
      have HPK := Lib.hid hpk; clear hpk
      go_wp2_with fail
      go_roundw
      case rel => exact ⟨k + 1, by go_num, by omega, by rw [HPK.out]; simpa using HO1.out, hb1⟩
      case measure => simp [intOf]; omega
    · obtain rfl : k = T := by omega
      clear hkT hk
      go_wp2_with fail
      go_loopw [8, 9, 11] (fun lv ov uv wr2 => ∃ (lf out : List Int) (u : Nat), uv = .int .i64 u ∧ u ≤ l.length ∧ lf.length + out.length ≤ k ∧ slLen lv = lf.length ∧ slLen ov = out.length ∧ wr2.ownsRow w.heap.size 3 1 lv lf.length (lf.map (Value.int .i64)) ∧ wr2.ownsRow w.heap.size 3 1 ov out.length (out.map (Value.int .i64)) ∧ Below w.heap.size w wr2 ∧
        (∀ q, lv.ownBlock = some q → ov.ownBlock ≠ some q) ∧
        someS k l (places k) n = (out ++ (someS lf.length (l.drop u) lf (n - out.length)).1, (someS lf.length (l.drop u) lf (n - out.length)).2)) (fun lv _ _ _ => slLen lv)
      case atStart =>
        obtain ⟨a', c', hv, _⟩ := SlA.of_own HO.out
        exact ⟨places k, [], 0, rfl, Nat.zero_le _, by simp [places_length], by rw [hv, places_length]; rfl, rfl, by rw [places_length]; exact HO.out, World.ownsRow_nil _ _ _ _, hb, by intro q hq; simp [Value.ownBlock], by simp [places_length]⟩
      case round =>
        obtain ⟨lf, out, u, rfl, hu, hlo, hl1, hl2, hO1, hO2, hb2, hne, hS⟩ := hrel
        obtain ⟨a1, c1, rfl, hs1, hp1, _⟩ := SlA.of_own hO1
        obtain ⟨a2, c2, rfl, hs2, hp2, _⟩ := SlA.of_own hO2
        have HO1 := Lib.hid hO1; clear hO1
        have HO2 := Lib.hid hO2; clear hO2
        have HS := Lib.hid hS; clear hS
        clear hl1 hl2
        have hbs := hb2.size
        by_cases hc1 : (out.length : Int) < n
        · by_cases hc2 : 0 < lf.length
          · obtain ⟨g, o, rfl, _⟩ := hs1.cell 0 (.int .i64 lf[0]) (by simp [hc2])
            have hg := hp1 _ rfl
            have ho0 := hg.2.2
            simp only at ho0
            subst ho0
            have hg1 : w.heap.size ≤ g := hg.1
            have hg2 : g < wr.heap.size := hg.2.1
            have hlc := hs1.le
            have hcm := hs1.max
            clear hp1 hp2 hg hs2
            by_cases hc3 : 1 < lf.length
            · by_cases hc4 : u < l.length
              · have hmod : 0 ≤ l[u] % (lf.length : Int) ∧ l[u] % (lf.length : Int) < lf.length := ⟨Int.emod_nonneg _ (by omega), Int.emod_lt_of_pos _ (by omega)⟩
                obtain ⟨kk, hkk⟩ : ∃ kk : Nat, l[u] % (lf.length : Int) = kk := ⟨(l[u] % (lf.length : Int)).toNat, by omega⟩
                have hkl : kk < lf.length := by omega
                obtain ⟨bl, ol, rfl, hcl⟩ := H.out.cell u (.int .u32 l[u]) (by simp [hc4])
                have hcl' := (hb2.cell (lt_of_cell hcl)).trans hcl
                have hcell := hs1.cellAt (k := kk) (.int .i64 lf[kk]) (by simp [hkl])
                have hbel : bel (l.drop u) lf.length = ((kk : Int), l.drop (u + 1)) := by rw [bel_in (by omega) (by omega) hc4, hkk]
                have HB := Lib.hid hbel
                have hrg := HR.out l[u] (List.getElem_mem hc4)
                have hrg1 := hrg.1
                have hrg2 := hrg.2
                clear hbel hrg hcl hmod hs1
                go_wp2_with (at_builtin; refine wpList_append_own _ rfl _ _ 22 rfl w.heap.size 3 i0 (.int .i64 0) 1 8 Try.underlying22 hi hz0 hz1 hz2 rfl (by decide) _ _ _ rfl (HO2.out.alloc _) ⟨wr.heap.size, 0, none⟩ 1 1 [.int .i64 lf[kk]] rfl rfl (news_one _ _ _) (one_one _ rfl) (by unfold maxLen; omega) (by omega) (by rw [World.size_alloc]; omega) ?_)
                intro v1 w1 hown1 hgrow1 _
                obtain ⟨HO1b, hb3⟩ := ref_grow HO1.out HO2.out hne hb2 hgrow1
                have hs3 := hb3.size
                obtain ⟨a2', c2', hv2', _, hp2', _⟩ := SlA.of_own hown1
                subst hv2'
                have hs31 : wr.heap.size + 1 ≤ w1.heap.size := by have := hgrow1.size; simpa using this
                have HOut := Lib.hid hown1; clear hown1
                have HLf := Lib.hid HO1b; clear HO1b
                have hlt2 : ∀ q, (Value.slice a2' (out.length + 1) c2').ownBlock = some q → q < w1.heap.size := fun q hq => (HOut.out.lt q hq).2
                have HLT := Lib.hid hlt2; clear hlt2 hp2' hgrow1 hne
                clear hcell
                go_wp2_with fail
                obtain ⟨ad, hif, had⟩ := if_addr (c1 = kk + 1) (⟨g, 0, none⟩ : Addr) ⟨g, kk + 1, none⟩
                have HAD := Lib.hid had; clear had
                refine wp_region_text [0, 4, 9] [] (fun w' => ∃ z : WC (fun _ => True), w' = z.val) (by kernel_rfl) (by kernel_rfl) (fun c a w d v h => by cases d <;> exact h) (fun c a w d v h => by cases d <;> exact h) ⟨⟨_, trivial⟩, rfl⟩ ?_
                refine wpU_e (by rfl) ?_
                go_wp2_with fail
                refine ⟨⟨⟨_, trivial⟩, rfl⟩, ?_⟩
                repeat (refine wpU_q (by rfl) (by rfl) ?_; go_big_quiet_step (fail); refine wpQuiet_nil ?_)
                refine wpU_e (by rfl) ?_
                have hcells : ∀ j x, ((lf.take (kk)).map (Value.int .i64))[j]? = some x → (w1.alloc (Obj.cells #[] 3)).drew.cell? ((⟨g, 0, none⟩ : Addr).add j) = some x := by
                  intro j x hj
                  rw [Addr.add_lit, Nat.zero_add, World.cell?_drew]
                  refine Lib.cell?_alloc_some _ ?_
                  have hj' := (List.getElem?_eq_some_iff.1 hj).1
                  rw [List.length_map, List.length_take] at hj'
                  rw [HLf.out.cellAt j (by omega), ← hj]
                  rw [List.getElem?_map, List.getElem?_map, List.getElem?_take, if_pos (by omega)]
                have HC := Lib.hid hcells; clear hcells
                go_wp2_with (at_builtin; refine wpList_append_own _ rfl _ _ 22 rfl w1.heap.size 3 i0 (.int .i64 0) 1 8 Try.underlying22 hi hz0 hz1 hz2 rfl (by decide) _ _ _ rfl (World.ownsRow_made (base := w1.heap.size) w1 #[] 0 (Nat.le_refl _) (Nat.zero_le _) rfl).drew ⟨g, 0, none⟩ (kk) c1 ((lf.take (kk)).map (Value.int .i64)) rfl (by rw [List.length_map, List.length_take]; omega) HC.out (one_map _ _ (fun _ => rfl)) (by unfold maxLen; omega) (by omega) (by show _ ≤ (w1.alloc _).heap.size; rw [World.size_alloc]; omega) ?_)
                intro v4 w4 hown4 hgrow4 _
                go_wp2_with fail
                refine ⟨⟨⟨_, trivial⟩, rfl⟩, ?_⟩
                repeat (refine wpU_q (by rfl) (by rfl) ?_; go_big_quiet_step (fail); refine wpQuiet_nil ?_)
                have hs4 : w1.heap.size + 1 ≤ w4.heap.size := by have := hgrow4.size; simpa using this
                have hb4 : Below w.heap.size w w4 := (((hb3.alloc hs3 (Obj.cells #[] 3)).drew).grown hgrow4 (by simp; omega) (by intro q hq; simp [Value.ownBlock] at hq; omega))
                have HLf4 : Hid (w4.ownsRow w.heap.size 3 1 (.slice (some ⟨g, 0, none⟩) lf.length c1) lf.length (lf.map (Value.int .i64))) := ((HLf.out.alloc (Obj.cells #[] 3)).drew).kept hgrow4 (by right; simp [Value.ownBlock]; omega)
                have HOut4 : Hid (w4.ownsRow w.heap.size 3 1 (.slice a2' (out.length + 1) c2') (out.length + 1) (out.map (Value.int .i64) ++ [.int .i64 lf[kk]])) := ((HOut.out.alloc (Obj.cells #[] 3)).drew).kept hgrow4 (by right; intro hq; have h7 : w1.heap.size < w1.heap.size := HLT.out _ hq; omega)
                have hne4 : ∀ q, v4.ownBlock = some q → w1.heap.size ≤ q := by
                  intro q hq
                  exact (hown4.lt q hq).1
                have hcells : ∀ j x, ((lf.drop (kk + 1)).map (Value.int .i64))[j]? = some x → w4.cell? (ad.add j) = some x := by
                  intro j x hj
                  have hj' := (List.getElem?_eq_some_iff.1 hj).1
                  simp at hj'
                  rw [HAD.out (by omega), Addr.add_lit]
                  rw [HLf4.out.cellAt (kk + 1 + j) (by omega), ← hj]
                  rw [List.getElem?_map, List.getElem?_map, List.getElem?_drop]
                have HC4 := Lib.hid hcells; clear hcells
                clear hgrow4
                refine wpU_e (by rfl) ?_
                go_wp2_with (at_builtin; refine wpList_append_own _ rfl _ _ 22 rfl w1.heap.size 3 i0 (.int .i64 0) 1 8 Try.underlying22 hi hz0 hz1 hz2 rfl (by decide) _ _ _ rfl hown4 ad (lf.length - (kk + 1)) (c1 - (kk + 1)) ((lf.drop (kk + 1)).map (Value.int .i64)) rfl (by rw [List.length_map, List.length_drop]; omega) HC4.out (one_map _ _ (fun _ => rfl)) (by unfold maxLen; omega) (by omega) (by omega) ?_)
                intro v5 w5 hown5 hgrow5 _
                go_wp2_with fail
                refine ⟨⟨⟨_, trivial⟩, rfl⟩, ?_⟩
                repeat (refine wpU_q (by rfl) (by rfl) ?_; go_big_quiet_step (fail); refine wpQuiet_nil ?_)
                refine wpU_nil ?_
                go_wp2_with fail
                go_roundw
                case rel =>
                  exact ⟨lf.eraseIdx (kk), out ++ [lf[kk]], u + 1, by go_num, by omega, ref_close (kk := kk) hkl hlo hb4 hs3 HOut.out HOut4.out hown4 hown5 hgrow5 HS.out (by omega) HB.out⟩
                case measure => exact ref_meas (kk := kk) hkl hown5
              · have hkl : 0 < lf.length := hc2
                have hcell := hs1.cellAt (k := 0) (.int .i64 lf[0]) (by simp [hc2])
                have hbel : bel (l.drop u) lf.length = (((0 : Nat) : Int), l.drop u) := by
                  have e0 : l.drop u = [] := by simp; omega
                  rw [e0]; unfold bel; split <;> rfl
                have HB := Lib.hid hbel
                clear hbel hs1
                go_wp2_with (at_builtin; refine wpList_append_own _ rfl _ _ 22 rfl w.heap.size 3 i0 (.int .i64 0) 1 8 Try.underlying22 hi hz0 hz1 hz2 rfl (by decide) _ _ _ rfl (HO2.out.alloc _) ⟨wr.heap.size, 0, none⟩ 1 1 [.int .i64 lf[0]] rfl rfl (news_one _ _ _) (one_one _ rfl) (by unfold maxLen; omega) (by omega) (by rw [World.size_alloc]; omega) ?_)
                intro v1 w1 hown1 hgrow1 _
                obtain ⟨HO1b, hb3⟩ := ref_grow HO1.out HO2.out hne hb2 hgrow1
                have hs3 := hb3.size
                obtain ⟨a2', c2', hv2', _, hp2', _⟩ := SlA.of_own hown1
                subst hv2'
                have hs31 : wr.heap.size + 1 ≤ w1.heap.size := by have := hgrow1.size; simpa using this
                have HOut := Lib.hid hown1; clear hown1
                have HLf := Lib.hid HO1b; clear HO1b
                have hlt2 : ∀ q, (Value.slice a2' (out.length + 1) c2').ownBlock = some q → q < w1.heap.size := fun q hq => (HOut.out.lt q hq).2
                have HLT := Lib.hid hlt2; clear hlt2 hp2' hgrow1 hne
                clear hcell
                go_wp2_with fail
                obtain ⟨ad, hif, had⟩ := if_addr (c1 = 1) (⟨g, 0, none⟩ : Addr) ⟨g, 1, none⟩
                have HAD := Lib.hid had; clear had
                refine wp_region_text [0, 4, 9] [] (fun w' => ∃ z : WC (fun _ => True), w' = z.val) (by kernel_rfl) (by kernel_rfl) (fun c a w d v h => by cases d <;> exact h) (fun c a w d v h => by cases d <;> exact h) ⟨⟨_, trivial⟩, rfl⟩ ?_
                refine wpU_e (by rfl) ?_
                go_wp2_with fail
                refine ⟨⟨⟨_, trivial⟩, rfl⟩, ?_⟩
                repeat (refine wpU_q (by rfl) (by rfl) ?_; go_big_quiet_step (fail); refine wpQuiet_nil ?_)
                refine wpU_e (by rfl) ?_
                have hcells : ∀ j x, ((lf.take (0)).map (Value.int .i64))[j]? = some x → (w1.alloc (Obj.cells #[] 3)).drew.cell? ((⟨g, 0, none⟩ : Addr).add j) = some x := by
                  intro j x hj
                  rw [Addr.add_lit, Nat.zero_add, World.cell?_drew]
                  refine Lib.cell?_alloc_some _ ?_
                  have hj' := (List.getElem?_eq_some_iff.1 hj).1
                  rw [List.length_map, List.length_take] at hj'
                  rw [HLf.out.cellAt j (by omega), ← hj]
                  rw [List.getElem?_map, List.getElem?_map, List.getElem?_take, if_pos (by omega)]
                have HC := Lib.hid hcells; clear hcells
                go_wp2_with (at_builtin; refine wpList_append_own _ rfl _ _ 22 rfl w1.heap.size 3 i0 (.int .i64 0) 1 8 Try.underlying22 hi hz0 hz1 hz2 rfl (by decide) _ _ _ rfl (World.ownsRow_made (base := w1.heap.size) w1 #[] 0 (Nat.le_refl _) (Nat.zero_le _) rfl).drew ⟨g, 0, none⟩ (0) c1 ((lf.take (0)).map (Value.int .i64)) rfl (by rw [List.length_map, List.length_take]; omega) HC.out (one_map _ _ (fun _ => rfl)) (by unfold maxLen; omega) (by omega) (by show _ ≤ (w1.alloc _).heap.size; rw [World.size_alloc]; omega) ?_)
                intro v4 w4 hown4 hgrow4 _
                go_wp2_with fail
                refine ⟨⟨⟨_, trivial⟩, rfl⟩, ?_⟩
                repeat (refine wpU_q (by rfl) (by rfl) ?_; go_big_quiet_step (fail); refine wpQuiet_nil ?_)
                have hs4 : w1.heap.size + 1 ≤ w4.heap.size := by have := hgrow4.size; simpa using this
                have hb4 : Below w.heap.size w w4 := (((hb3.alloc hs3 (Obj.cells #[] 3)).drew).grown hgrow4 (by simp; omega) (by intro q hq; simp [Value.ownBlock] at hq; omega))
                have HLf4 : Hid (w4.ownsRow w.heap.size 3 1 (.slice (some ⟨g, 0, none⟩) lf.length c1) lf.length (lf.map (Value.int .i64))) := ((HLf.out.alloc (Obj.cells #[] 3)).drew).kept hgrow4 (by right; simp [Value.ownBlock]; omega)
                have HOut4 : Hid (w4.ownsRow w.heap.size 3 1 (.slice a2' (out.length + 1) c2') (out.length + 1) (out.map (Value.int .i64) ++ [.int .i64 lf[0]])) := ((HOut.out.alloc (Obj.cells #[] 3)).drew).kept hgrow4 (by right; intro hq; have h7 : w1.heap.size < w1.heap.size := HLT.out _ hq; omega)
                have hne4 : ∀ q, v4.ownBlock = some q → w1.heap.size ≤ q := by
                  intro q hq
                  exact (hown4.lt q hq).1
                have hcells : ∀ j x, ((lf.drop (1)).map (Value.int .i64))[j]? = some x → w4.cell? (ad.add j) = some x := by
                  intro j x hj
                  have hj' := (List.getElem?_eq_some_iff.1 hj).1
                  simp at hj'
                  rw [HAD.out (by omega), Addr.add_lit]
                  rw [HLf4.out.cellAt (1 + j) (by omega), ← hj]
                  rw [List.getElem?_map, List.getElem?_map, List.getElem?_drop]
                have HC4 := Lib.hid hcells; clear hcells
                clear hgrow4
                refine wpU_e (by rfl) ?_
                go_wp2_with (at_builtin; refine wpList_append_own _ rfl _ _ 22 rfl w1.heap.size 3 i0 (.int .i64 0) 1 8 Try.underlying22 hi hz0 hz1 hz2 rfl (by decide) _ _ _ rfl hown4 ad (lf.length - (1)) (c1 - (1)) ((lf.drop (1)).map (Value.int .i64)) rfl (by rw [List.length_map, List.length_drop]; omega) HC4.out (one_map _ _ (fun _ => rfl)) (by unfold maxLen; omega) (by omega) (by omega) ?_)
                intro v5 w5 hown5 hgrow5 _
                go_wp2_with fail
                refine ⟨⟨⟨_, trivial⟩, rfl⟩, ?_⟩
                repeat (refine wpU_q (by rfl) (by rfl) ?_; go_big_quiet_step (fail); refine wpQuiet_nil ?_)
                refine wpU_nil ?_
                go_wp2_with fail
                go_roundw
                case rel =>
                  exact ⟨lf.eraseIdx (0), out ++ [lf[0]], u, by rfl, by omega, ref_close (kk := 0) hkl hlo hb4 hs3 HOut.out HOut4.out (by simpa using hown4) (by simpa using hown5) hgrow5 HS.out (by omega) HB.out⟩
                case measure => exact ref_meas (kk := 0) hkl (by simpa using hown5)
            · have hkl : 0 < lf.length := hc2
              have hcell := hs1.cellAt (k := 0) (.int .i64 lf[0]) (by simp [hc2])
              have hbel : bel (l.drop u) lf.length = (((0 : Nat) : Int), l.drop u) := bel_out (by omega)
              have HB := Lib.hid hbel
              clear hbel hs1
              go_wp2_with (at_builtin; refine wpList_append_own _ rfl _ _ 22 rfl w.heap.size 3 i0 (.int .i64 0) 1 8 Try.underlying22 hi hz0 hz1 hz2 rfl (by decide) _ _ _ rfl (HO2.out.alloc _) ⟨wr.heap.size, 0, none⟩ 1 1 [.int .i64 lf[0]] rfl rfl (news_one _ _ _) (one_one _ rfl) (by unfold maxLen; omega) (by omega) (by rw [World.size_alloc]; omega) ?_)
              intro v1 w1 hown1 hgrow1 _
              obtain ⟨HO1b, hb3⟩ := ref_grow HO1.out HO2.out hne hb2 hgrow1
              have hs3 := hb3.size
              obtain ⟨a2', c2', hv2', _, hp2', _⟩ := SlA.of_own hown1
              subst hv2'
              have hs31 : wr.heap.size + 1 ≤ w1.heap.size := by have := hgrow1.size; simpa using this
              have HOut := Lib.hid hown1; clear hown1
              have HLf := Lib.hid HO1b; clear HO1b
              have hlt2 : ∀ q, (Value.slice a2' (out.length + 1) c2').ownBlock = some q → q < w1.heap.size := fun q hq => (HOut.out.lt q hq).2
              have HLT := Lib.hid hlt2; clear hlt2 hp2' hgrow1 hne
              clear hcell
              go_wp2_with fail
              obtain ⟨ad, hif, had⟩ := if_addr (c1 = 1) (⟨g, 0, none⟩ : Addr) ⟨g, 1, none⟩
              have HAD := Lib.hid had; clear had
              refine wp_region_text [0, 4, 9] [] (fun w' => ∃ z : WC (fun _ => True), w' = z.val) (by kernel_rfl) (by kernel_rfl) (fun c a w d v h => by cases d <;> exact h) (fun c a w d v h => by cases d <;> exact h) ⟨⟨_, trivial⟩, rfl⟩ ?_
              refine wpU_e (by rfl) ?_
              go_wp2_with fail
              refine ⟨⟨⟨_, trivial⟩, rfl⟩, ?_⟩
              repeat (refine wpU_q (by rfl) (by rfl) ?_; go_big_quiet_step (fail); refine wpQuiet_nil ?_)
              refine wpU_e (by rfl) ?_
              have hcells : ∀ j x, ((lf.take (0)).map (Value.int .i64))[j]? = some x → (w1.alloc (Obj.cells #[] 3)).drew.cell? ((⟨g, 0, none⟩ : Addr).add j) = some x := by
                intro j x hj
                rw [Addr.add_lit, Nat.zero_add, World.cell?_drew]
                refine Lib.cell?_alloc_some _ ?_
                have hj' := (List.getElem?_eq_some_iff.1 hj).1
                rw [List.length_map, List.length_take] at hj'
                rw [HLf.out.cellAt j (by omega), ← hj]
                rw [List.getElem?_map, List.getElem?_map, List.getElem?_take, if_pos (by omega)]
              have HC := Lib.hid hcells; clear hcells
              go_wp2_with (at_builtin; refine wpList_append_own _ rfl _ _ 22 rfl w1.heap.size 3 i0 (.int .i64 0) 1 8 Try.underlying22 hi hz0 hz1 hz2 rfl (by decide) _ _ _ rfl (World.ownsRow_made (base := w1.heap.size) w1 #[] 0 (Nat.le_refl _) (Nat.zero_le _) rfl).drew ⟨g, 0, none⟩ (0) c1 ((lf.take (0)).map (Value.int .i64)) rfl (by rw [List.length_map, List.length_take]; omega) HC.out (one_map _ _ (fun _ => rfl)) (by unfold maxLen; omega) (by omega) (by show _ ≤ (w1.alloc _).heap.size; rw [World.size_alloc]; omega) ?_)
              intro v4 w4 hown4 hgrow4 _
              go_wp2_with fail
              refine ⟨⟨⟨_, trivial⟩, rfl⟩, ?_⟩
              repeat (refine wpU_q (by rfl) (by rfl) ?_; go_big_quiet_step (fail); refine wpQuiet_nil ?_)
              have hs4 : w1.heap.size + 1 ≤ w4.heap.size := by have := hgrow4.size; simpa using this
              have hb4 : Below w.heap.size w w4 := (((hb3.alloc hs3 (Obj.cells #[] 3)).drew).grown hgrow4 (by simp; omega) (by intro q hq; simp [Value.ownBlock] at hq; omega))
              have HLf4 : Hid (w4.ownsRow w.heap.size 3 1 (.slice (some ⟨g, 0, none⟩) lf.length c1) lf.length (lf.map (Value.int .i64))) := ((HLf.out.alloc (Obj.cells #[] 3)).drew).kept hgrow4 (by right; simp [Value.ownBlock]; omega)
              have HOut4 : Hid (w4.ownsRow w.heap.size 3 1 (.slice a2' (out.length + 1) c2') (out.length + 1) (out.map (Value.int .i64) ++ [.int .i64 lf[0]])) := ((HOut.out.alloc (Obj.cells #[] 3)).drew).kept hgrow4 (by right; intro hq; have h7 : w1.heap.size < w1.heap.size := HLT.out _ hq; omega)
              have hne4 : ∀ q, v4.ownBlock = some q → w1.heap.size ≤ q := by
                intro q hq
                exact (hown4.lt q hq).1
              have hcells : ∀ j x, ((lf.drop (1)).map (Value.int .i64))[j]? = some x → w4.cell? (ad.add j) = some x := by
                intro j x hj
                have hj' := (List.getElem?_eq_some_iff.1 hj).1
                simp at hj'
                rw [HAD.out (by omega), Addr.add_lit]
                rw [HLf4.out.cellAt (1 + j) (by omega), ← hj]
                rw [List.getElem?_map, List.getElem?_map, List.getElem?_drop]
              have HC4 := Lib.hid hcells; clear hcells
              clear hgrow4
              refine wpU_e (by rfl) ?_
              go_wp2_with (at_builtin; refine wpList_append_own _ rfl _ _ 22 rfl w1.heap.size 3 i0 (.int .i64 0) 1 8 Try.underlying22 hi hz0 hz1 hz2 rfl (by decide) _ _ _ rfl hown4 ad (lf.length - (1)) (c1 - (1)) ((lf.drop (1)).map (Value.int .i64)) rfl (by rw [List.length_map, List.length_drop]; omega) HC4.out (one_map _ _ (fun _ => rfl)) (by unfold maxLen; omega) (by omega) (by omega) ?_)
              intro v5 w5 hown5 hgrow5 _
              go_wp2_with fail
              refine ⟨⟨⟨_, trivial⟩, rfl⟩, ?_⟩
              repeat (refine wpU_q (by rfl) (by rfl) ?_; go_big_quiet_step (fail); refine wpQuiet_nil ?_)
              refine wpU_nil ?_
              go_wp2_with fail
              go_roundw
              case rel =>
                exact ⟨lf.eraseIdx (0), out ++ [lf[0]], u, by rfl, by omega, ref_close (kk := 0) hkl hlo hb4 hs3 HOut.out HOut4.out (by simpa using hown4) (by simpa using hown5) hgrow5 HS.out (by omega) HB.out⟩
              case measure => exact ref_meas (kk := 0) hkl (by simpa using hown5)
          · have hz : lf = [] := by cases lf with | nil => rfl | cons x r => simp at hc2
            subst hz
            have HZ : Hid ((someS k l (places k) n).1 = out ∧ (someS k l (places k) n).2 = l.drop u) := by
              have h1 := HS.out
              rw [someS_stop _ (l.drop u) [] _ (by simp)] at h1
              show _ ∧ _
              rw [h1]; simp
            go_wp2_with fail
            go_ret2
            exact ⟨_, u, rfl, by rw [HZ.out.1]; exact HO2.out, HZ.out.2, hu, hb2⟩
        · have HZ : Hid ((someS k l (places k) n).1 = out ∧ (someS k l (places k) n).2 = l.drop u) := by
            have h1 := HS.out
            rw [someS_stop _ (l.drop u) lf _ (by omega)] at h1
            show _ ∧ _
            rw [h1]; simp
          go_wp2_with fail
          go_ret2
          exact ⟨_, u, rfl, by rw [HZ.out.1]; exact HO2.out, HZ.out.2, hu, hb2⟩
end Go.Proofs.Ytdpnkikaciigoaa
