/-
  Bundle (bundle2.py).
-/
import Derived.Test.YtdpnkikaciigoaaDrawG
import Derived.Test.YtdpnkikaciigoaaOwn
import Derived.Test.YtdpnkikaciigoaaSlcInt
import Derived.Test.YtdpnkikaciigoaaRegionX
import Derived.Test.YtdpnkikaciigoaaVPLaw
import Derived.Test.YtdpnkikaciigoaaMixSmp
import Derived.Test.YtdpnkikaciigoaaRegionW
import Derived.Test.YtdpnkikaciigoaaMixStart
import Derived.Test.YtdpnkikaciigoaaViewEv
import Derived.Test.YtdpnkikaciigoaaSetRef
/-
  The contract of the reference's Some (bellhopref02): it returns what someS computes on the places.
-/
namespace Go.Proofs.Ytdpnkikaciigoaa
open Go.RowKit Go.Proofs

def places (T : Nat) : List Int := (List.range T).map fun k : Nat => (k : Int)
theorem places_length (T : Nat) : (places T).length = T := by simp [places]
theorem places_succ (k : Nat) : places (k + 1) = places k ++ [(k : Int)] := by simp [places, List.range_succ]

theorem SlA.cellAt {w : World} {b n cap : Nat} {cs : List Value} (h : SlA w (some ⟨b, 0, none⟩) n cap cs) {k : Nat} (u : Value) (hk : cs[k]? = some u) : w.cell? ⟨b, k, none⟩ = some u := by
  obtain ⟨b', o, e, hc⟩ := h.cell k u hk
  cases e
  rw [Nat.zero_add] at hc; exact hc

theorem ref_grow {W wr w1 : World} {base e n m : Nat} {lv ov : Value} {x : Obj} {xs ys : List Value} (h1 : wr.ownsRow W.heap.size e 1 lv n xs) (h2 : wr.ownsRow W.heap.size base 1 ov m ys) (hne : ∀ q, lv.ownBlock = some q → ov.ownBlock ≠ some q) (hb : Below W.heap.size W wr)
    (hg : (wr.alloc x).grownBy w1 ov.ownBlock) : w1.ownsRow W.heap.size e 1 lv n xs ∧ Below W.heap.size W w1 := by
  have hs := hb.size
  refine ⟨(h1.alloc x).kept hg ?_, (hb.alloc hs x).grown hg (by simp; omega) (fun q hq => (h2.lt q hq).1)⟩
  cases hl : lv.ownBlock with
  | none => exact .inl rfl
  | some q => exact .inr (Ne.symm (hne q hl))

theorem ref_meas {lf : List Int} {kk b e : Nat} {v5 : Value} {w5 : World} {cs : List Value} {g : Option Addr} {c1 : Nat} (hkl : kk < lf.length) (h : w5.ownsRow b e 1 v5 (kk + (lf.length - (kk + 1))) cs) : slLen v5 < slLen (.slice g lf.length c1) := by
  obtain ⟨a', c', rfl, _⟩ := SlA.of_own h
  simp [slLen]; omega

theorem ref_close {w w1 w4 w5 : World} {lf out l : List Int} {kk k u u' e c2' : Nat} {n : Int} {v4 v5 : Value} {a2' : Option Addr} {vs : List Value} (hkl : kk < lf.length) (hlo : lf.length + out.length ≤ k) (hb4 : Below w.heap.size w w4) (hs3 : w.heap.size ≤ w1.heap.size)
    (hOut : w1.ownsRow w.heap.size e 1 (.slice a2' (out.length + 1) c2') (out.length + 1) (out.map (Value.int .i64) ++ [.int .i64 lf[kk]]))
    (hOut4 : w4.ownsRow w.heap.size e 1 (.slice a2' (out.length + 1) c2') (out.length + 1) (out.map (Value.int .i64) ++ [.int .i64 lf[kk]]))
    (hown4 : w4.ownsRow w1.heap.size e 1 v4 kk vs)
    (hown5 : w5.ownsRow w1.heap.size e 1 v5 (kk + (lf.length - (kk + 1))) (List.take kk (lf.map (Value.int .i64)) ++ List.drop (kk + 1) (lf.map (Value.int .i64)))) (hg : w4.grownBy w5 v4.ownBlock)
    (hS : someS k l (places k) n = (out ++ (someS lf.length (l.drop u) lf (n - out.length)).1, (someS lf.length (l.drop u) lf (n - out.length)).2)) (hn : 0 < n - out.length)
    (hB : bel (l.drop u) lf.length = ((kk : Int), l.drop u')) :
    (lf.eraseIdx kk).length + (out ++ [lf[kk]]).length ≤ k ∧ slLen v5 = (lf.eraseIdx kk).length ∧ slLen (.slice a2' (out.length + 1) c2') = (out ++ [lf[kk]]).length ∧ w5.ownsRow w.heap.size e 1 v5 (lf.eraseIdx kk).length ((lf.eraseIdx kk).map (Value.int .i64)) ∧
      w5.ownsRow w.heap.size e 1 (.slice a2' (out.length + 1) c2') (out ++ [lf[kk]]).length ((out ++ [lf[kk]]).map (Value.int .i64)) ∧ Below w.heap.size w w5 ∧ (∀ q, v5.ownBlock = some q → (Value.slice a2' (out.length + 1) c2').ownBlock ≠ some q) ∧
      someS k l (places k) n = (out ++ [lf[kk]] ++ (someS (lf.eraseIdx kk).length (l.drop u') (lf.eraseIdx kk) (n - (out ++ [lf[kk]]).length)).1, (someS (lf.eraseIdx kk).length (l.drop u') (lf.eraseIdx kk) (n - (out ++ [lf[kk]]).length)).2) := by
  have hle : (lf.eraseIdx kk).length = lf.length - 1 := by rw [List.length_eraseIdx, if_pos hkl]
  have hcs : List.take kk (lf.map (Value.int .i64)) ++ List.drop (kk + 1) (lf.map (Value.int .i64)) = (lf.eraseIdx kk).map (Value.int .i64) := by rw [← List.map_take, ← List.map_drop, ← List.map_append, List.eraseIdx_eq_take_drop_succ]
  rw [hcs, show kk + (lf.length - (kk + 1)) = lf.length - 1 by omega] at hown5
  have hlt : ∀ q, (Value.slice a2' (out.length + 1) c2').ownBlock = some q → q < w1.heap.size := fun q hq => (hOut.lt q hq).2
  refine ⟨by simp [hle]; omega, ?_, by simp [slLen], by rw [hle]; exact own_base hown5 hs3, ?_, ?_, ?_, ?_⟩
  · obtain ⟨a', c', rfl, _⟩ := SlA.of_own hown5
    rw [hle]; rfl
  · have := hOut4.kept hg (by
      cases ho : (Value.slice a2' (out.length + 1) c2').ownBlock with
      | none => exact .inl rfl
      | some q => exact .inr (fun he => by have h1 := (hown4.lt q he.symm).1; have h2 := hlt q ho; omega))
    simpa using this
  · exact hb4.grown hg hb4.size (fun q hq => by have := (hown4.lt q hq).1; omega)
  · intro q hq hq'
    have h1 := (hown5.lt q hq).1
    have h2 := hlt q hq'
    omega
  · have hst := someS_step (lf.length - 1) (l.drop u) lf (n - out.length) hn kk (by unfold belN; rw [hB]; rfl) hkl
    rw [show lf.length - 1 + 1 = lf.length by omega] at hst
    rw [hS, hst, hB, hle]
    rw [show n - ((out ++ [lf[kk]]).length : Int) = n - out.length - 1 by simp; omega]
    simp

set_option maxRecDepth 100000 in
set_option maxHeartbeats 1000000 in
theorem ref_some (l : List Int) (a : Option Addr) (cap T : Nat) (n : Int) (w : World) (h : SlA w a l.length cap (l.map (Value.int .u32))) (hr : ∀ x ∈ l, 0 ≤ x ∧ x < 4294967296) (hT : T ≤ 1000) (hlm : l.length ≤ 1000) (hn : -9223372036854775808 ≤ n ∧ n ≤ 9223372036854775807) :
    Calls Try.prog 107 #[.slice a l.length cap, .int .i64 T, .int .i64 n] w fun e w' => ∃ (v : Value) (u : Nat), e = .returned (.tuple #[v, .int .i64 u]) ∧ w'.ownsRow w.heap.size 3 1 v (someS T l (places T) n).1.length ((someS T l (places T) n).1.map (Value.int .i64)) ∧
      (someS T l (places T) n).2 = l.drop u ∧ u ≤ l.length ∧ Below w.heap.size w w' := by
  obtain ⟨i0, hi, hz0, hz1, hz2⟩ := info_parts Try.infoint
  have hn1 := hn.1
  have hn2 := hn.2
  clear hn
  have H := Lib.hid h; clear h
  have HR := Lib.hid hr; clear hr
  go_enter Try.func107, Try.ntmps107
  go_wp2_with fail
  go_loopw [8, 10] (fun lv iv wr => ∃ k : Nat, iv = .int .i64 k ∧ k ≤ T ∧ wr.ownsRow w.heap.size 3 1 lv k ((places k).map (Value.int .i64)) ∧ Below w.heap.size w wr) (fun _ iv _ => T - (intOf iv).toNat)
  case atStart => exact ⟨0, rfl, Nat.zero_le _, World.ownsRow_nil _ _ _ _, Below.refl _ _⟩
  case round =>
    obtain ⟨k, rfl, hk, hO, hb⟩ := hrel
    have hs := hb.size
    have HO := Lib.hid hO; clear hO
    by_cases hkT : k < T
    · have hpl : (places k).length = k := by simp [places]
      go_wp2_with (at_builtin; refine wpList_append_own _ rfl _ _ 22 rfl w.heap.size 3 i0 (.int .i64 0) 1 8 Try.underlying22 hi hz0 hz1 hz2 rfl (by decide) _ _ _ rfl (HO.out.alloc _) ⟨wr.heap.size, 0, none⟩ 1 1 [.int .i64 k] rfl rfl ?c1 ?c2 ?c3 ?c4 ?c5 ?_)
      case c1 =>
        intro j u hj
        match j, hj with
        | 0, hj =>
          simp at hj; subst hj
          rw [Addr.add_lit, Nat.add_zero, World.cell?_alloc_at _ _ _ _ rfl]; rfl
      case c2 => intro u hu; simp at hu; subst hu; rfl
      case c3 => unfold maxLen; omega
      case c4 => omega
      case c5 => simp; omega
      intro v1 w1 hown1 hgrow1 _
      have hb1 : Below w.heap.size w w1 := (hb.alloc hs _).grown hgrow1 (by simp; omega) (fun q hq => (HO.out.lt q hq).1)
      have hpk := places_succ k
      have HO1 := Lib.hid hown1; clear hown1 hgrow1
      have HPK := Lib.hid hpk; clear hpk
      go_wp2_with fail
      go_roundw
      case rel => exact ⟨k + 1, by go_num, by omega, by rw [HPK.out]; simpa using HO1.out, hb1⟩
      case measure => simp [intOf]; omega
    · obtain rfl : k = T := by omega
      clear hkT hk
      go_wp2_with fail
      go_loopw [8, 9, 11] (fun lv ov uv wr2 => ∃ (lf out : List Int) (u : Nat), uv = .int .i64 u ∧ u ≤ l.length ∧ lf.length + out.length ≤ k ∧ slLen lv = lf.length ∧ slLen ov = out.length ∧ wr2.ownsRow w.heap.size 3 1 lv lf.length (lf.map (Value.int .i64)) ∧ wr2.ownsRow w.heap.size 3 1 ov out.length (out.map (Value.int .i64)) ∧ Below w.heap.size w wr2 ∧
        (∀ q, lv.ownBlock = some q → ov.ownBlock ≠ some q) ∧
        someS k l (places k) n = (out ++ (someS lf.length (l.drop u) lf (n - out.length)).1, (someS lf.length (l.drop u) lf (n - out.length)).2)) (fun lv _ _ _ => slLen lv)
      case atStart =>
        obtain ⟨a', c', hv, _⟩ := SlA.of_own HO.out
        exact ⟨places k, [], 0, rfl, Nat.zero_le _, by simp [places_length], by rw [hv, places_length]; rfl, rfl, by rw [places_length]; exact HO.out, World.ownsRow_nil _ _ _ _, hb, by intro q hq; simp [Value.ownBlock], by simp [places_length]⟩
      case round =>
        obtain ⟨lf, out, u, rfl, hu, hlo, hl1, hl2, hO1, hO2, hb2, hne, hS⟩ := hrel
        obtain ⟨a1, c1, rfl, hs1, hp1, _⟩ := SlA.of_own hO1
        obtain ⟨a2, c2, rfl, hs2, hp2, _⟩ := SlA.of_own hO2
        have HO1 := Lib.hid hO1; clear hO1
        have HO2 := Lib.hid hO2; clear hO2
        have HS := Lib.hid hS; clear hS
        clear hl1 hl2
        have hbs := hb2.size
        by_cases hc1 : (out.length : Int) < n
        · by_cases hc2 : 0 < lf.length
          · obtain ⟨g, o, rfl, _⟩ := hs1.cell 0 (.int .i64 lf[0]) (by simp [hc2])
            have hg := hp1 _ rfl
            have ho0 := hg.2.2
            simp only at ho0
            subst ho0
            have hg1 : w.heap.size ≤ g := hg.1
            have hg2 : g < wr.heap.size := hg.2.1
            have hlc := hs1.le
            have hcm := hs1.max
            clear hp1 hp2 hg hs2
            by_cases hc3 : 1 < lf.length
            · by_cases hc4 : u < l.length
              · have hmod : 0 ≤ l[u] % (lf.length : Int) ∧ l[u] % (lf.length : Int) < lf.length := ⟨Int.emod_nonneg _ (by omega), Int.emod_lt_of_pos _ (by omega)⟩
                obtain ⟨kk, hkk⟩ : ∃ kk : Nat, l[u] % (lf.length : Int) = kk := ⟨(l[u] % (lf.length : Int)).toNat, by omega⟩
                have hkl : kk < lf.length := by omega
                obtain ⟨bl, ol, rfl, hcl⟩ := H.out.cell u (.int .u32 l[u]) (by simp [hc4])
                have hcl' := (hb2.cell (lt_of_cell hcl)).trans hcl
                have hcell := hs1.cellAt (k := kk) (.int .i64 lf[kk]) (by simp [hkl])
                have hbel : bel (l.drop u) lf.length = ((kk : Int), l.drop (u + 1)) := by rw [bel_in (by omega) (by omega) hc4, hkk]
                have HB := Lib.hid hbel
                have hrg := HR.out l[u] (List.getElem_mem hc4)
                have hrg1 := hrg.1
                have hrg2 := hrg.2
                clear hbel hrg hcl hmod hs1
                go_wp2_with (at_builtin; refine wpList_append_own _ rfl _ _ 22 rfl w.heap.size 3 i0 (.int .i64 0) 1 8 Try.underlying22 hi hz0 hz1 hz2 rfl (by decide) _ _ _ rfl (HO2.out.alloc _) ⟨wr.heap.size, 0, none⟩ 1 1 [.int .i64 lf[kk]] rfl rfl (news_one _ _ _) (one_one _ rfl) (by unfold maxLen; omega) (by omega) (by rw [World.size_alloc]; omega) ?_)
                intro v1 w1 hown1 hgrow1 _
                obtain ⟨HO1b, hb3⟩ := ref_grow HO1.out HO2.out hne hb2 hgrow1
                have hs3 := hb3.size
                obtain ⟨a2', c2', hv2', _, hp2', _⟩ := SlA.of_own hown1
                subst hv2'
                have hs31 : wr.heap.size + 1 ≤ w1.heap.size := by have := hgrow1.size; simpa using this
                have HOut := Lib.hid hown1; clear hown1
                have HLf := Lib.hid HO1b; clear HO1b
                have hlt2 : ∀ q, (Value.slice a2' (out.length + 1) c2').ownBlock = some q → q < w1.heap.size := fun q hq => (HOut.out.lt q hq).2
                have HLT := Lib.hid hlt2; clear hlt2 hp2' hgrow1 hne
                clear hcell
                go_wp2_with fail
                obtain ⟨ad, hif, had⟩ := if_addr (c1 = kk + 1) (⟨g, 0, none⟩ : Addr) ⟨g, kk + 1, none⟩
                have HAD := Lib.hid had; clear had
                refine wp_region_text [0, 4, 9] [] (fun w' => ∃ z : WC (fun _ => True), w' = z.val) (by kernel_rfl) (by kernel_rfl) (fun c a w d v h => by cases d <;> exact h) (fun c a w d v h => by cases d <;> exact h) ⟨⟨_, trivial⟩, rfl⟩ ?_
                refine wpU_e (by rfl) ?_
                go_wp2_with fail
                refine ⟨⟨⟨_, trivial⟩, rfl⟩, ?_⟩
                repeat (refine wpU_q (by rfl) (by rfl) ?_; go_big_quiet_step (fail); refine wpQuiet_nil ?_)
                refine wpU_e (by rfl) ?_
                have hcells : ∀ j x, ((lf.take (kk)).map (Value.int .i64))[j]? = some x → (w1.alloc (Obj.cells #[] 3)).drew.cell? ((⟨g, 0, none⟩ : Addr).add j) = some x := by
                  intro j x hj
                  rw [Addr.add_lit, Nat.zero_add, World.cell?_drew]
                  refine Lib.cell?_alloc_some _ ?_
                  have hj' := (List.getElem?_eq_some_iff.1 hj).1
                  rw [List.length_map, List.length_take] at hj'
                  rw [HLf.out.cellAt j (by omega), ← hj]
                  rw [List.getElem?_map, List.getElem?_map, List.getElem?_take, if_pos (by omega)]
                have HC := Lib.hid hcells; clear hcells
                go_wp2_with (at_builtin; refine wpList_append_own _ rfl _ _ 22 rfl w1.heap.size 3 i0 (.int .i64 0) 1 8 Try.underlying22 hi hz0 hz1 hz2 rfl (by decide) _ _ _ rfl (World.ownsRow_made (base := w1.heap.size) w1 #[] 0 (Nat.le_refl _) (Nat.zero_le _) rfl).drew ⟨g, 0, none⟩ (kk) c1 ((lf.take (kk)).map (Value.int .i64)) rfl (by rw [List.length_map, List.length_take]; omega) HC.out (one_map _ _ (fun _ => rfl)) (by unfold maxLen; omega) (by omega) (by show _ ≤ (w1.alloc _).heap.size; rw [World.size_alloc]; omega) ?_)
                intro v4 w4 hown4 hgrow4 _
                go_wp2_with fail
                refine ⟨⟨⟨_, trivial⟩, rfl⟩, ?_⟩
                repeat (refine wpU_q (by rfl) (by rfl) ?_; go_big_quiet_step (fail); refine wpQuiet_nil ?_)
                have hs4 : w1.heap.size + 1 ≤ w4.heap.size := by have := hgrow4.size; simpa using this
                have hb4 : Below w.heap.size w w4 := (((hb3.alloc hs3 (Obj.cells #[] 3)).drew).grown hgrow4 (by simp; omega) (by intro q hq; simp [Value.ownBlock] at hq; omega))
                have HLf4 : Hid (w4.ownsRow w.heap.size 3 1 (.slice (some ⟨g, 0, none⟩) lf.length c1) lf.length (lf.map (Value.int .i64))) := ((HLf.out.alloc (Obj.cells #[] 3)).drew).kept hgrow4 (by right; simp [Value.ownBlock]; omega)
                have HOut4 : Hid (w4.ownsRow w.heap.size 3 1 (.slice a2' (out.length + 1) c2') (out.length + 1) (out.map (Value.int .i64) ++ [.int .i64 lf[kk]])) := ((HOut.out.alloc (Obj.cells #[] 3)).drew).kept hgrow4 (by right; intro hq; have h7 : w1.heap.size < w1.heap.size := HLT.out _ hq; omega)
                have hne4 : ∀ q, v4.ownBlock = some q → w1.heap.size ≤ q := by
                  intro q hq
                  exact (hown4.lt q hq).1
                have hcells : ∀ j x, ((lf.drop (kk + 1)).map (Value.int .i64))[j]? = some x → w4.cell? (ad.add j) = some x := by
                  intro j x hj
                  have hj' := (List.getElem?_eq_some_iff.1 hj).1
                  simp at hj'
                  rw [HAD.out (by omega), Addr.add_lit]
                  rw [HLf4.out.cellAt (kk + 1 + j) (by omega), ← hj]
                  rw [List.getElem?_map, List.getElem?_map, List.getElem?_drop]
                have HC4 := Lib.hid hcells; clear hcells
                clear hgrow4
                refine wpU_e (by rfl) ?_
                go_wp2_with (at_builtin; refine wpList_append_own _ rfl _ _ 22 rfl w1.heap.size 3 i0 (.int .i64 0) 1 8 Try.underlying22 hi hz0 hz1 hz2 rfl (by decide) _ _ _ rfl hown4 ad (lf.length - (kk + 1)) (c1 - (kk + 1)) ((lf.drop (kk + 1)).map (Value.int .i64)) rfl (by rw [List.length_map, List.length_drop]; omega) HC4.out (one_map _ _ (fun _ => rfl)) (by unfold maxLen; omega) (by omega) (by omega) ?_)
                intro v5 w5 hown5 hgrow5 _
                go_wp2_with fail
                refine ⟨⟨⟨_, trivial⟩, rfl⟩, ?_⟩
                repeat (refine wpU_q (by rfl) (by rfl) ?_; go_big_quiet_step (fail); refine wpQuiet_nil ?_)
                refine wpU_nil ?_
                go_wp2_with fail
                go_roundw
                case rel =>
                  exact ⟨lf.eraseIdx (kk), out ++ [lf[kk]], u + 1, by go_num, by omega, ref_close (kk := kk) hkl hlo hb4 hs3 HOut.out HOut4.out hown4 hown5 hgrow5 HS.out (by omega) HB.out⟩
                case measure => exact ref_meas (kk := kk) hkl hown5
              · have hkl : 0 < lf.length := hc2
                have hcell := hs1.cellAt (k := 0) (.int .i64 lf[0]) (by simp [hc2])
                have hbel : bel (l.drop u) lf.length = (((0 : Nat) : Int), l.drop u) := by
                  have e0 : l.drop u = [] := by simp; omega
                  rw [e0]; unfold bel; split <;> rfl
                have HB := Lib.hid hbel
                clear hbel hs1
                go_wp2_with (at_builtin; refine wpList_append_own _ rfl _ _ 22 rfl w.heap.size 3 i0 (.int .i64 0) 1 8 Try.underlying22 hi hz0 hz1 hz2 rfl (by decide) _ _ _ rfl (HO2.out.alloc _) ⟨wr.heap.size, 0, none⟩ 1 1 [.int .i64 lf[0]] rfl rfl (news_one _ _ _) (one_one _ rfl) (by unfold maxLen; omega) (by omega) (by rw [World.size_alloc]; omega) ?_)
                intro v1 w1 hown1 hgrow1 _
                obtain ⟨HO1b, hb3⟩ := ref_grow HO1.out HO2.out hne hb2 hgrow1
                have hs3 := hb3.size
                obtain ⟨a2', c2', hv2', _, hp2', _⟩ := SlA.of_own hown1
                subst hv2'
                have hs31 : wr.heap.size + 1 ≤ w1.heap.size := by have := hgrow1.size; simpa using this
                have HOut := Lib.hid hown1; clear hown1
                have HLf := Lib.hid HO1b; clear HO1b
                have hlt2 : ∀ q, (Value.slice a2' (out.length + 1) c2').ownBlock = some q → q < w1.heap.size := fun q hq => (HOut.out.lt q hq).2
                have HLT := Lib.hid hlt2; clear hlt2 hp2' hgrow1 hne
                clear hcell
                go_wp2_with fail
                obtain ⟨ad, hif, had⟩ := if_addr (c1 = 1) (⟨g, 0, none⟩ : Addr) ⟨g, 1, none⟩
                have HAD := Lib.hid had; clear had
                refine wp_region_text [0, 4, 9] [] (fun w' => ∃ z : WC (fun _ => True), w' = z.val) (by kernel_rfl) (by kernel_rfl) (fun c a w d v h => by cases d <;> exact h) (fun c a w d v h => by cases d <;> exact h) ⟨⟨_, trivial⟩, rfl⟩ ?_
                refine wpU_e (by rfl) ?_
                go_wp2_with fail
                refine ⟨⟨⟨_, trivial⟩, rfl⟩, ?_⟩
                repeat (refine wpU_q (by rfl) (by rfl) ?_; go_big_quiet_step (fail); refine wpQuiet_nil ?_)
                refine wpU_e (by rfl) ?_
                have hcells : ∀ j x, ((lf.take (0)).map (Value.int .i64))[j]? = some x → (w1.alloc (Obj.cells #[] 3)).drew.cell? ((⟨g, 0, none⟩ : Addr).add j) = some x := by
                  intro j x hj
                  rw [Addr.add_lit, Nat.zero_add, World.cell?_drew]
                  refine Lib.cell?_alloc_some _ ?_
                  have hj' := (List.getElem?_eq_some_iff.1 hj).1
                  rw [List.length_map, List.length_take] at hj'
                  rw [HLf.out.cellAt j (by omega), ← hj]
                  rw [List.getElem?_map, List.getElem?_map, List.getElem?_take, if_pos (by omega)]
                have HC := Lib.hid hcells; clear hcells
                go_wp2_with (at_builtin; refine wpList_append_own _ rfl _ _ 22 rfl w1.heap.size 3 i0 (.int .i64 0) 1 8 Try.underlying22 hi hz0 hz1 hz2 rfl (by decide) _ _ _ rfl (World.ownsRow_made (base := w1.heap.size) w1 #[] 0 (Nat.le_refl _) (Nat.zero_le _) rfl).drew ⟨g, 0, none⟩ (0) c1 ((lf.take (0)).map (Value.int .i64)) rfl (by rw [List.length_map, List.length_take]; omega) HC.out (one_map _ _ (fun _ => rfl)) (by unfold maxLen; omega) (by omega) (by show _ ≤ (w1.alloc _).heap.size; rw [World.size_alloc]; omega) ?_)
                intro v4 w4 hown4 hgrow4 _
                go_wp2_with fail
                refine ⟨⟨⟨_, trivial⟩, rfl⟩, ?_⟩
                repeat (refine wpU_q (by rfl) (by rfl) ?_; go_big_quiet_step (fail); refine wpQuiet_nil ?_)
                have hs4 : w1.heap.size + 1 ≤ w4.heap.size := by have := hgrow4.size; simpa using this
                have hb4 : Below w.heap.size w w4 := (((hb3.alloc hs3 (Obj.cells #[] 3)).drew).grown hgrow4 (by simp; omega) (by intro q hq; simp [Value.ownBlock] at hq; omega))
                have HLf4 : Hid (w4.ownsRow w.heap.size 3 1 (.slice (some ⟨g, 0, none⟩) lf.length c1) lf.length (lf.map (Value.int .i64))) := ((HLf.out.alloc (Obj.cells #[] 3)).drew).kept hgrow4 (by right; simp [Value.ownBlock]; omega)
                have HOut4 : Hid (w4.ownsRow w.heap.size 3 1 (.slice a2' (out.length + 1) c2') (out.length + 1) (out.map (Value.int .i64) ++ [.int .i64 lf[0]])) := ((HOut.out.alloc (Obj.cells #[] 3)).drew).kept hgrow4 (by right; intro hq; have h7 : w1.heap.size < w1.heap.size := HLT.out _ hq; omega)
                have hne4 : ∀ q, v4.ownBlock = some q → w1.heap.size ≤ q := by
                  intro q hq
                  exact (hown4.lt q hq).1
                have hcells : ∀ j x, ((lf.drop (1)).map (Value.int .i64))[j]? = some x → w4.cell? (ad.add j) = some x := by
                  intro j x hj
                  have hj' := (List.getElem?_eq_some_iff.1 hj).1
                  simp at hj'
                  rw [HAD.out (by omega), Addr.add_lit]
                  rw [HLf4.out.cellAt (1 + j) (by omega), ← hj]
                  rw [List.getElem?_map, List.getElem?_map, List.getElem?_drop]
                have HC4 := Lib.hid hcells; clear hcells
                clear hgrow4
                refine wpU_e (by rfl) ?_
                go_wp2_with (at_builtin; refine wpList_append_own _ rfl _ _ 22 rfl w1.heap.size 3 i0 (.int .i64 0) 1 8 Try.underlying22 hi hz0 hz1 hz2 rfl (by decide) _ _ _ rfl hown4 ad (lf.length - (1)) (c1 - (1)) ((lf.drop (1)).map (Value.int .i64)) rfl (by rw [List.length_map, List.length_drop]; omega) HC4.out (one_map _ _ (fun _ => rfl)) (by unfold maxLen; omega) (by omega) (by omega) ?_)
                intro v5 w5 hown5 hgrow5 _
                go_wp2_with fail
                refine ⟨⟨⟨_, trivial⟩, rfl⟩, ?_⟩
                repeat (refine wpU_q (by rfl) (by rfl) ?_; go_big_quiet_step (fail); refine wpQuiet_nil ?_)
                refine wpU_nil ?_
                go_wp2_with fail
                go_roundw
                case rel =>
                  exact ⟨lf.eraseIdx (0), out ++ [lf[0]], u, by rfl, by omega, ref_close (kk := 0) hkl hlo hb4 hs3 HOut.out HOut4.out (by simpa using hown4) (by simpa using hown5) hgrow5 HS.out (by omega) HB.out⟩
                case measure => exact ref_meas (kk := 0) hkl (by simpa using hown5)
            · have hkl : 0 < lf.length := hc2
              have hcell := hs1.cellAt (k := 0) (.int .i64 lf[0]) (by simp [hc2])
              have hbel : bel (l.drop u) lf.length = (((0 : Nat) : Int), l.drop u) := bel_out (by omega)
              have HB := Lib.hid hbel
              clear hbel hs1
              go_wp2_with (at_builtin; refine wpList_append_own _ rfl _ _ 22 rfl w.heap.size 3 i0 (.int .i64 0) 1 8 Try.underlying22 hi hz0 hz1 hz2 rfl (by decide) _ _ _ rfl (HO2.out.alloc _) ⟨wr.heap.size, 0, none⟩ 1 1 [.int .i64 lf[0]] rfl rfl (news_one _ _ _) (one_one _ rfl) (by unfold maxLen; omega) (by omega) (by rw [World.size_alloc]; omega) ?_)
              intro v1 w1 hown1 hgrow1 _
              obtain ⟨HO1b, hb3⟩ := ref_grow HO1.out HO2.out hne hb2 hgrow1
              have hs3 := hb3.size
              obtain ⟨a2', c2', hv2', _, hp2', _⟩ := SlA.of_own hown1
              subst hv2'
              have hs31 : wr.heap.size + 1 ≤ w1.heap.size := by have := hgrow1.size; simpa using this
              have HOut := Lib.hid hown1; clear hown1
              have HLf := Lib.hid HO1b; clear HO1b
              have hlt2 : ∀ q, (Value.slice a2' (out.length + 1) c2').ownBlock = some q → q < w1.heap.size := fun q hq => (HOut.out.lt q hq).2
              have HLT := Lib.hid hlt2; clear hlt2 hp2' hgrow1 hne
              clear hcell
              go_wp2_with fail
              obtain ⟨ad, hif, had⟩ := if_addr (c1 = 1) (⟨g, 0, none⟩ : Addr) ⟨g, 1, none⟩
              have HAD := Lib.hid had; clear had
              refine wp_region_text [0, 4, 9] [] (fun w' => ∃ z : WC (fun _ => True), w' = z.val) (by kernel_rfl) (by kernel_rfl) (fun c a w d v h => by cases d <;> exact h) (fun c a w d v h => by cases d <;> exact h) ⟨⟨_, trivial⟩, rfl⟩ ?_
              refine wpU_e (by rfl) ?_
              go_wp2_with fail
              refine ⟨⟨⟨_, trivial⟩, rfl⟩, ?_⟩
              repeat (refine wpU_q (by rfl) (by rfl) ?_; go_big_quiet_step (fail); refine wpQuiet_nil ?_)
              refine wpU_e (by rfl) ?_
              have hcells : ∀ j x, ((lf.take (0)).map (Value.int .i64))[j]? = some x → (w1.alloc (Obj.cells #[] 3)).drew.cell? ((⟨g, 0, none⟩ : Addr).add j) = some x := by
                intro j x hj
                rw [Addr.add_lit, Nat.zero_add, World.cell?_drew]
                refine Lib.cell?_alloc_some _ ?_
                have hj' := (List.getElem?_eq_some_iff.1 hj).1
                rw [List.length_map, List.length_take] at hj'
                rw [HLf.out.cellAt j (by omega), ← hj]
                rw [List.getElem?_map, List.getElem?_map, List.getElem?_take, if_pos (by omega)]
              have HC := Lib.hid hcells; clear hcells
              go_wp2_with (at_builtin; refine wpList_append_own _ rfl _ _ 22 rfl w1.heap.size 3 i0 (.int .i64 0) 1 8 Try.underlying22 hi hz0 hz1 hz2 rfl (by decide) _ _ _ rfl (World.ownsRow_made (base := w1.heap.size) w1 #[] 0 (Nat.le_refl _) (Nat.zero_le _) rfl).drew ⟨g, 0, none⟩ (0) c1 ((lf.take (0)).map (Value.int .i64)) rfl (by rw [List.length_map, List.length_take]; omega) HC.out (one_map _ _ (fun _ => rfl)) (by unfold maxLen; omega) (by omega) (by show _ ≤ (w1.alloc _).heap.size; rw [World.size_alloc]; omega) ?_)
              intro v4 w4 hown4 hgrow4 _
              go_wp2_with fail
              refine ⟨⟨⟨_, trivial⟩, rfl⟩, ?_⟩
              repeat (refine wpU_q (by rfl) (by rfl) ?_; go_big_quiet_step (fail); refine wpQuiet_nil ?_)
              have hs4 : w1.heap.size + 1 ≤ w4.heap.size := by have := hgrow4.size; simpa using this
              have hb4 : Below w.heap.size w w4 := (((hb3.alloc hs3 (Obj.cells #[] 3)).drew).grown hgrow4 (by simp; omega) (by intro q hq; simp [Value.ownBlock] at hq; omega))
              have HLf4 : Hid (w4.ownsRow w.heap.size 3 1 (.slice (some ⟨g, 0, none⟩) lf.length c1) lf.length (lf.map (Value.int .i64))) := ((HLf.out.alloc (Obj.cells #[] 3)).drew).kept hgrow4 (by right; simp [Value.ownBlock]; omega)
              have HOut4 : Hid (w4.ownsRow w.heap.size 3 1 (.slice a2' (out.length + 1) c2') (out.length + 1) (out.map (Value.int .i64) ++ [.int .i64 lf[0]])) := ((HOut.out.alloc (Obj.cells #[] 3)).drew).kept hgrow4 (by right; intro hq; have h7 : w1.heap.size < w1.heap.size := HLT.out _ hq; omega)
              have hne4 : ∀ q, v4.ownBlock = some q → w1.heap.size ≤ q := by
                intro q hq
                exact (hown4.lt q hq).1
              have hcells : ∀ j x, ((lf.drop (1)).map (Value.int .i64))[j]? = some x → w4.cell? (ad.add j) = some x := by
                intro j x hj
                have hj' := (List.getElem?_eq_some_iff.1 hj).1
                simp at hj'
                rw [HAD.out (by omega), Addr.add_lit]
                rw [HLf4.out.cellAt (1 + j) (by omega), ← hj]
                rw [List.getElem?_map, List.getElem?_map, List.getElem?_drop]
              have HC4 := Lib.hid hcells; clear hcells
              clear hgrow4
              refine wpU_e (by rfl) ?_
              go_wp2_with (at_builtin; refine wpList_append_own _ rfl _ _ 22 rfl w1.heap.size 3 i0 (.int .i64 0) 1 8 Try.underlying22 hi hz0 hz1 hz2 rfl (by decide) _ _ _ rfl hown4 ad (lf.length - (1)) (c1 - (1)) ((lf.drop (1)).map (Value.int .i64)) rfl (by rw [List.length_map, List.length_drop]; omega) HC4.out (one_map _ _ (fun _ => rfl)) (by unfold maxLen; omega) (by omega) (by omega) ?_)
              intro v5 w5 hown5 hgrow5 _
              go_wp2_with fail
              refine ⟨⟨⟨_, trivial⟩, rfl⟩, ?_⟩
              repeat (refine wpU_q (by rfl) (by rfl) ?_; go_big_quiet_step (fail); refine wpQuiet_nil ?_)
              refine wpU_nil ?_
              go_wp2_with fail
              go_roundw
              case rel =>
                exact ⟨lf.eraseIdx (0), out ++ [lf[0]], u, by rfl, by omega, ref_close (kk := 0) hkl hlo hb4 hs3 HOut.out HOut4.out (by simpa using hown4) (by simpa using hown5) hgrow5 HS.out (by omega) HB.out⟩
              case measure => exact ref_meas (kk := 0) hkl (by simpa using hown5)
          · have hz : lf = [] := by cases lf with | nil => rfl | cons x r => simp at hc2
            subst hz
            have HZ : Hid ((someS k l (places k) n).1 = out ∧ (someS k l (places k) n).2 = l.drop u) := by
              have h1 := HS.out
              rw [someS_stop _ (l.drop u) [] _ (by simp)] at h1
              show _ ∧ _
              rw [h1]; simp
            go_wp2_with fail
            go_ret2
            exact ⟨_, u, rfl, by rw [HZ.out.1]; exact HO2.out, HZ.out.2, hu, hb2⟩
        · have HZ : Hid ((someS k l (places k) n).1 = out ∧ (someS k l (places k) n).2 = l.drop u) := by
            have h1 := HS.out
            rw [someS_stop _ (l.drop u) lf _ (by omega)] at h1
            show _ ∧ _
            rw [h1]; simp
          go_wp2_with fail
          go_ret2
          exact ⟨_, u, rfl, by rw [HZ.out.1]; exact HO2.out, HZ.out.2, hu, hb2⟩
end Go.Proofs.Ytdpnkikaciigoaa

/-
  The document's samples (bellhopref12).
-/
namespace Go.Proofs.Ytdpnkikaciigoaa
open Go.RowKit Go.Proofs

theorem places_get (t : List Int) : (places t.length).map (fun i => t.getD i.toNat 0) = t := by
  apply List.ext_getElem
  · simp [places]
  · intro i h1 h2
    simp [places, List.getD_eq_getElem?_getD, List.getElem?_eq_getElem h2]
theorem someS_places (ds t : List Int) (n : Int) : (someS t.length ds (places t.length) n).1.map (fun i => t.getD i.toNat 0) = (someS t.length ds t n).1 ∧ (someS t.length ds (places t.length) n).2 = (someS t.length ds t n).2 := by
  have h := someS_map (fun i : Int => t.getD i.toNat 0) t.length ds (places t.length) n
  rw [places_get] at h
  rw [h]
  exact ⟨rfl, rfl⟩
theorem places_mem {t : Nat} {x : Int} (h : x ∈ places t) : ∃ k : Nat, x = k ∧ k < t := by
  obtain ⟨k, hk, rfl⟩ := List.mem_map.1 h
  exact ⟨k, rfl, List.mem_range.1 hk⟩

/-- what is left of a call that gives numbers and a row of draws -/
def SomeOut (da : Option Addr) (l ds' : List Int) (r : Value → Value → Value) (W : World) (e : Ending) (w' : World) : Prop :=
  ∃ a c da' dc', e = .returned (r (.slice a l.length c) (.slice da' ds'.length dc')) ∧ SlA w' a l.length c (ints l) ∧ (∀ q, a = some q → W.heap.size ≤ q.block) ∧ SlA w' da' ds'.length dc' (ds'.map (Value.int .u32)) ∧ DaOf da da' ∧ Gr W w'

set_option maxHeartbeats 4000000 in
set_option maxRecDepth 100000 in
theorem refMixSome_any (ds : List Int) (da : Option Addr) (dc : Nat) (a : Option Addr) (c : Nat) (l t : List Int) (n : Int) (W : World) (hd : SlA W da ds.length dc (ds.map (Value.int .u32))) (h : SlA W a l.length c (ints l)) (hp : t.Perm l) (ht : t.Pairwise (· ≤ ·)) (hl : l.length ≤ 64)
    (hr : ∀ x ∈ ds, 0 ≤ x ∧ x < 4294967296) (hds : ds.length ≤ 1000) (hn : -9223372036854775808 ≤ n ∧ n ≤ 9223372036854775807) :
    Calls Try.prog 83 #[.slice da ds.length dc, .slice a l.length c, .int .i64 n] W (SomeOut da (someS t.length ds t n).1 (someS t.length ds t n).2 (fun x y => .tuple #[x, y]) W) := by
  obtain ⟨i0, hi, hz0, hz1, hz2⟩ := info_parts Try.infoint
  have htl : t.length = l.length := hp.length_eq
  have CS := Lib.hid (refSorted_sl a c l t W h hp ht (by omega))
  have CR := Lib.hid (fun w (f : Gr W w) => ref_some ds da dc t.length n w (hd.keep f (fun _ _ h => h)) hr (by omega) hds hn)
  obtain ⟨hs1, hs2⟩ := someS_places ds t n
  obtain ⟨I, hI⟩ : ∃ I, I = (someS t.length ds (places t.length) n).1 := ⟨_, rfl⟩
  have hIm : ∀ x ∈ I, ∃ k : Nat, x = k ∧ k < t.length := fun x hx => places_mem (someS_sub t.length ds (places t.length) n x (by rw [← hI]; exact hx))
  have hIl : I.length ≤ 64 := by
    rw [hI, someS_length _ _ _ _ (by rw [places_length]; omega) hr, places_length]
    omega
  rw [← hI] at CR hs1
  rw [hs2] at CR
  rw [← hs1]
  generalize (someS t.length ds t n).2 = d2 at CR hs2 ⊢
  have HD := Lib.hid hd
  have HI := Lib.hid hIm
  have e1 := hd.le
  have e2 := hd.max
  have hTl : t.length ≤ 64 := by omega
  clear hI hs1 hs2 hd h hp ht hr hIm htl
  go_enter Try.func83, Try.ntmps83
  go_wp2_with fail
  refine CS.out.mono ?_
  rintro e w1 ⟨a1, c1, rfl, h1, f1⟩
  have H1 := Lib.hid h1
  have F1 := Lib.hid f1
  have e3 := h1.le
  have e4 := h1.max
  clear h1 f1 CS
  go_wp2_with fail
  refine (CR.out w1 F1.out).mono ?_
  rintro e w2 ⟨v2, k, rfl, ho, hdk, hk, hb⟩
  obtain ⟨a2, c2, rfl, h2, -⟩ := SlA.of_own ho
  have F2 := Lib.hid (Gr.trans F1.out (Gr.of_below hb))
  have H2 := Lib.hid h2
  have H1' := Lib.hid (H1.out.keep (Gr.of_below hb) (fun _ _ h => h))
  have HDK := Lib.hid hdk
  have e5 := h2.le
  have e6 := h2.max
  clear h2 ho hdk hb H1 F1 CR
  go_wp2_with fail
  go_loopw [11, 12] (fun ov iv wr => ∃ i : Nat, iv = .int .i64 i ∧ i ≤ I.length ∧ wr.ownsRow w2.heap.size 3 1 ov (I.take i).length (ints ((I.take i).map (fun i => t.getD i.toNat 0))) ∧ Gr w2 wr) (fun _ iv _ => I.length - (intOf iv).toNat)
  case atStart => exact ⟨0, rfl, Nat.zero_le _, World.ownsRow_nil _ _ _ _, Fr.refl _ _⟩
  case round =>
    obtain ⟨i, rfl, hi2, hO, hfr⟩ := hrel
    have HO := Lib.hid hO
    have HF := Lib.hid (Gr.trans F2.out hfr)
    have hsz := hfr.size
    have HF2 := Lib.hid hfr
    by_cases hlt : i < I.length
    · obtain ⟨kk, hkk, hkt⟩ := HI.out I[i] (List.getElem_mem hlt)
      obtain ⟨b2, o2, rfl, hc2⟩ := (H2.out.keep hfr (fun _ _ h => h)).at1 i hlt
      obtain ⟨b1, o1, rfl, hc1⟩ := (H1'.out.keep hfr (fun _ _ h => h)).at1 kk hkt
      have hsn : (I.take (i + 1)).map (fun i => t.getD i.toNat 0) = (I.take i).map (fun i => t.getD i.toNat 0) ++ [t[kk]] := by
        rw [List.take_succ_eq_append_getElem hlt, List.map_append, hkk]
        simp [List.getD_eq_getElem?_getD, List.getElem?_eq_getElem hkt]
      have htl : (I.take i).length ≤ 64 := by simp; omega
      have HSN := Lib.hid hsn
      rw [hkk] at hc2
      clear hO hfr hsn hkk
      generalize t[kk] = tv at *
      go_wp2_with (at_builtin; refine wpList_append_own _ rfl _ _ 22 rfl w2.heap.size 3 i0 (.int .i64 0) 1 8 Try.underlying22 hi hz0 hz1 hz2 rfl (by decide) _ _ _ rfl (HO.out.alloc _) ⟨wr.heap.size, 0, none⟩ 1 1 [.int .i64 tv] rfl rfl (news_one _ _ _) (one_one _ rfl) (by unfold maxLen; omega) (by omega) (by rw [World.size_alloc]; omega) ?_)
      intro v1 w8 ho8 hg8 _
      have f8 : Gr w2 w8 := (HF2.out.alloc _).grown hg8 (fun q hq => .inr (HO.out.lt q hq).1)
      have F8 := Lib.hid f8
      have HO8 := Lib.hid ho8
      clear f8 ho8 hg8
      go_wp2_with fail
      go_roundw
      case rel =>
        refine ⟨i + 1, by go_num, hlt, ?_, F8.out⟩
        have := HO8.out
        rw [show (I.take (i + 1)).length = i + 1 by simp; omega, HSN.out]
        simpa using this
      case measure => simp [intOf]; omega
    · have hi3 : i = I.length := by omega
      have hI2 : I.take i = I := List.take_of_length_le (by omega)
      rw [hI2] at HO
      have hw := HD.out.keep HF.out (fun _ _ h => h)
      clear hO hfr hI2 hi3 H1' H2
      obtain ⟨a9, c9, rfl, hOs, hOp, -⟩ : ∃ a cap, u11 = .slice a I.length cap ∧ SlA wr a I.length cap (ints (I.map (fun i => t.getD i.toNat 0))) ∧ (∀ p, a = some p → w2.heap.size ≤ p.block ∧ p.block < wr.heap.size ∧ p.off = 0) ∧ True := by
        obtain ⟨a, cap, h1, h2, h3, _⟩ := SlA.of_own HO.out
        exact ⟨a, cap, h1, h2, h3, trivial⟩
      cases da with
      | none =>
        obtain rfl : ds = [] := by
          cases ds with
          | nil => rfl
          | cons x r => obtain ⟨b, o, e, _⟩ := hw.cell 0 _ rfl; cases e
        obtain rfl : k = 0 := by simpa using hk
        go_upto_region 8 with fail
        go_quiet (fail)
        have FQ := Lib.hid ((Gr.trans F2.out HF2.out).drewN nq)
        go_wp2_with fail
        go_ret2
        refine ⟨a9, c9, none, dc, ?_, ?_, fun p hp => ?_, ?_, DaOf.refl _, FQ.out⟩
        · rw [HDK.out]; simp
        · rw [List.length_map]; exact hOs.drewN nq
        · have := (hOp p hp).1; have := F2.out.size; omega
        · rw [HDK.out]; exact ⟨Nat.zero_le _, e2, fun j u hj => by simp at hj⟩
      | some q =>
        by_cases hkc : k = dc
        · subst hkc
          go_upto_region 8 with fail
          go_quiet (fail)
          have FQ := Lib.hid ((Gr.trans F2.out HF2.out).drewN nq)
          have hd0 : d2 = [] := by rw [HDK.out]; simp; omega
          subst hd0
          go_wp2_with fail
          go_ret2
          refine ⟨a9, c9, some q, 0, ?_, ?_, fun p hp => ?_, ?_, DaOf.refl _, FQ.out⟩
          · simp
          · rw [List.length_map]; exact hOs.drewN nq
          · have := (hOp p hp).1; have := F2.out.size; omega
          · exact ⟨Nat.le_refl _, by simp, fun j u hj => by simp at hj⟩
        · have hkc2 : k < dc := by omega
          go_upto_region 8 with fail
          go_quiet (fail)
          have FQ := Lib.hid ((Gr.trans F2.out HF2.out).drewN nq)
          have hdl : d2.length = ds.length - k := by rw [HDK.out]; simp
          go_wp2_with fail
          go_ret2
          refine ⟨a9, c9, some (q.add k), dc - k, ?_, ?_, fun p hp => ?_, ?_, fun p hp => ⟨q, rfl, by cases hp; unfold Addr.add; split <;> rfl⟩, FQ.out⟩
          · rw [hdl]; simp
          · rw [List.length_map]; exact hOs.drewN nq
          · have := (hOp p hp).1; have := F2.out.size; omega
          · refine ⟨by omega, by omega, fun j u hj => ?_⟩
            obtain ⟨b, o, e, hc⟩ := (hw.drewN nq).cell (k + j) u (by rw [HDK.out] at hj; simpa using hj)
            cases e
            exact ⟨b, o + k, by rw [Addr.add_lit], by rw [Nat.add_assoc]; exact hc⟩
end Go.Proofs.Ytdpnkikaciigoaa

/-
  The document's samples and answers (printed by gen_mixref2.py).
-/
namespace Go.Proofs.Ytdpnkikaciigoaa
open Go.RowKit Go.Proofs

/-- what is left of a call that gives a row of its own and the view with the numbers that are left -/
def SmpOut (u : Vw) (z : VwP) (da : Option Addr) (l ds' : List Int) (W : World) (e : Ending) (w' : World) : Prop :=
  ∃ a c da' dc', e = .returned (.tuple #[.slice a l.length c, .agg (rwArr u z ds' da' dc')]) ∧ SlA w' a l.length c (ints l) ∧ (∀ q, a = some q → W.heap.size ≤ q.block) ∧ RwAt w' u z ds' da' dc' ∧ DaOf da da' ∧ Gr W w'
theorem RwAt.keepLt {B : Nat} {w w' : World} {u : Vw} {z : VwP} {ds : List Int} {da : Option Addr} {dc : Nat} (h : RwAt w u z ds da dc) (f : Fr (fun k => B ≤ k) w w') (la : u.act ≠ [] → ∀ q, z.aa = some q → q.block < B) (lp : u.pas ≠ [] → ∀ q, z.pa = some q → q.block < B) (ld : ds ≠ [] → ∀ q, da = some q → q.block < B) : RwAt w' u z ds da dc := by
  refine ⟨h.act.keepNE f (fun hl q hq hk => by have := la hl q hq; omega), h.pas.keepNE f (fun hl q hq hk => by have := lp hl q hq; omega), ?_⟩
  by_cases hd : ds = []
  · subst hd; exact ⟨h.dr.le, h.dr.max, fun j x hj => by simp at hj⟩
  · exact h.dr.keep f (fun q hq hk => by have := ld hd q hq; omega)
theorem SlA.ltU {w : World} {a : Option Addr} {n cap : Nat} {l : List Int} {k : IntKind} (h : SlA w a n cap (l.map (Value.int k))) (hl : l ≠ []) : ∀ q, a = some q → q.block < w.heap.size := by
  intro q hq
  obtain ⟨b, o, e, hlt⟩ := h.lt (by simpa using hl)
  rw [e] at hq
  cases hq
  exact hlt
theorem RwAt.keepGt {B : Nat} {w w' : World} {u : Vw} {z : VwP} {ds : List Int} {da : Option Addr} {dc : Nat} (h : RwAt w u z ds da dc) (f : Fr (fun k => B ≤ k) w w') (hB : w.heap.size ≤ B) : RwAt w' u z ds da dc :=
  h.keepLt f (fun hl q hq => by have := h.act.ltNE hl q hq; omega) (fun hl q hq => by have := h.pas.ltNE hl q hq; omega) (fun hl q hq => by have := h.dr.ltU hl q hq; omega)
set_option maxHeartbeats 4000000 in
set_option maxRecDepth 100000 in
theorem refMixAnswer_any (n : Int) (hn : -9223372036854775808 ≤ n ∧ n ≤ 9223372036854775807) (u : Vw) (z : VwP) (ds : List Int) (da : Option Addr) (dc : Nat) (W : World) (h : RwAt W u z ds da dc) (hr : ∀ x ∈ ds, 0 ≤ x ∧ x < 4294967296) (hds : ds.length ≤ 1000) (v : Vw) (hk : Like v u) (hg : v.Good) :
    Calls Try.prog 62 #[.agg (rwArr u z ds da dc), .int .i64 n] W (SmpOut u z da (someS v.pas.length ds v.pas n).1 (someS v.pas.length ds v.pas n).2 W) := by
  obtain ⟨i0, hi, hz0, hz1, hz2⟩ := info_parts Try.infoint
  obtain ⟨w1, hw1⟩ : ∃ w1, w1 = (W.alloc (.cells (rwArr u z ds da dc) 51)).alloc (.cells rwZ 51) := ⟨_, rfl⟩
  have f1 : Gr W w1 := by rw [hw1]; exact ((Fr.refl _ _).alloc _).alloc _
  have V1 := Lib.hid (show w1.heap[W.heap.size]? = some (.cells (rwArr u z ds da dc) 51 (0, 0)) by rw [hw1, heap_alloc_if, if_neg (by simp), heap_alloc_if, if_pos rfl])
  have R1 := Lib.hid (show w1.heap[W.heap.size + 1]? = some (.cells rwZ 51 (0, 0)) by rw [hw1, heap_alloc_if, if_pos (by simp)])
  have s1 : W.heap.size + 1 < w1.heap.size := by rw [hw1]; simp
  have F1 := Lib.hid f1
  have HW1 := Lib.hid hw1
  have H1 := Lib.hid (h.gr f1)
  have e1 := h.act.le
  have e2 := h.act.max
  have e3 := h.pas.le
  have e4 := h.pas.max
  have e5 := h.dr.le
  have e6 := h.dr.max
  obtain ⟨S, hS⟩ : ∃ S : Nat → Prop, S = fun k => k = W.heap.size ∨ k = W.heap.size + 1 := ⟨_, rfl⟩
  have AP := Lib.hid (show VwApart S u z from h.new (fun k hk => by rw [hS] at hk; omega))
  have HS := Lib.hid (show S W.heap.size ∧ S (W.heap.size + 1) ∧ ∀ k, S k → k < w1.heap.size by rw [hS]; exact ⟨.inl rfl, .inr rfl, fun k hk => by omega⟩)
  have LA := Lib.hid (show (u.act ≠ [] → ∀ q, z.aa = some q → q.block < W.heap.size) ∧ (u.pas ≠ [] → ∀ q, z.pa = some q → q.block < W.heap.size) ∧ (ds ≠ [] → ∀ q, da = some q → q.block < W.heap.size) from ⟨h.act.ltNE, h.pas.ltNE, h.dr.ltU⟩)
  have HR := Lib.hid hr
  have HG := Lib.hid hg
  have hq1 := hk.act.length_eq
  have hq2 := hk.pas.length_eq
  have hq3 := hg.act.len
  have hq4 := hg.pas.len
  have hq5 : u.act.length ≤ 64 := by omega
  have hq6 : u.pas.length ≤ 64 := by omega
  clear hw1 f1 h hS
  have CS := Lib.hid (fun w (f : Gr w1 w) => refMixSome_any ds da dc z.pa z.pc u.pas v.pas n w (H1.out.gr f).dr (H1.out.gr f).pas hk.pas hg.pas.le hq6 hr hds hn)
  unfold SomeOut at CS
  generalize (someS v.pas.length ds v.pas n).1 = T at CS ⊢
  generalize (someS v.pas.length ds v.pas n).2 = d9 at CS ⊢
  clear hk hg hr hq1 hq2 hq3 hq4
  go_enter Try.func62, Try.ntmps62
  go_upto_region 1 with fail
  rw [← HW1.out]
  clear HW1
  have y0 := (Bx.of_block V1.out) 0 _ rfl
  have y1 := (Bx.of_block V1.out) 1 _ rfl
  have y2 := (Bx.of_block V1.out) 2 _ rfl
  have y5 := (Bx.of_block V1.out) 5 _ rfl
  go_wp2_with fail
  refine (CS.out _ (Fr.refl _ _)).mono ?_
  rintro e w2 ⟨aT, cT, d9a, d9c, rfl, hT, hTn, hd9, hda, f2⟩
  have V9 := Lib.hid (blk_keep f2 V1.out (fun h => h))
  have R9 := Lib.hid (blk_keep f2 R1.out (fun h => h))
  have F9 := Lib.hid (Gr.trans F1.out f2)
  have H9 : Hid (RwAt w2 u z d9 d9a d9c) := Lib.hid ⟨(H1.out.gr f2).act, (H1.out.gr f2).pas, hd9⟩
  have HT := Lib.hid hT
  have HTN := Lib.hid hTn
  have HDA := Lib.hid hda
  have k1 := hT.le
  have k2 := hT.max
  clear hT hTn hda f2 hd9 V1 R1 F1 H1 CS y0 y1 y2 y5
  have yc := (Bx.of_block V9.out) 5 _ rfl
  have zc := Lib.frozen_of_heap V9.out 5
  go_upto_region 3 with fail
  obtain ⟨w30, hw30⟩ : ∃ w30, w30 = World.setCell w2 ⟨W.heap.size, 5, none⟩ (.slice d9a d9.length d9c) := ⟨_, rfl⟩
  rw [← hw30]
  have f30 : Fr (fun k => k = W.heap.size) w2 w30 := by rw [hw30]; exact (Fr.refl (fun k => k = W.heap.size) _).setCell (p := ⟨W.heap.size, 5, none⟩) (.inl rfl) _
  have b30 : w30.heap[W.heap.size]? = some (.cells (rwArr u z d9 d9a d9c) 51 (0, 0)) := by rw [hw30]; exact blk_set1 V9.out 5 _
  clear hw30 yc zc
  have V30 := Lib.hid b30
  have R30 := Lib.hid (blk_keep f30 R9.out (by omega))
  have F30 := Lib.hid (fr_new F9.out f30 (Nat.le_refl _))
  have HX := H9.out.store f30 AP.out HS.out.1 V9.out (noU32_arr _ _ _ _ _)
  have H30 := Lib.hid (show RwAt w30 u z d9 d9a d9c from HX)
  have G30 := Lib.hid f30
  clear HX f30 b30 V9 R9 F9 H9
  have HT30 := Lib.hid (HT.out.keep G30.out (fun q hq he => by have := HTN.out q hq; omega))
  clear HT
  have V31 := Lib.hid (show w30.drew.heap[W.heap.size]? = some (.cells (rwArr u z d9 d9a d9c) 51 (0, 0)) from V30.out)
  have R31 := Lib.hid (show w30.drew.heap[W.heap.size + 1]? = some (.cells rwZ 51 (0, 0)) from R30.out)
  have F31 := Lib.hid (F30.out.drew)
  have H31 := Lib.hid (H30.out.gr ((Fr.refl _ _).drew))
  have T31 := Lib.hid (HT30.out.keep ((Fr.refl (fun _ => False) _).drew) (fun _ _ h => h))
  clear V30 R30 F30 H30 HT30 G30
  haveI : Nonempty (WC (fun _ => True)) := ⟨⟨w30, trivial⟩⟩
  go_upto_region 3 with fail
  refine wp_region_lastO 3 [1] [] [0, 1, 2] (fun w' => ∃ z' : WC (fun _ => True), w' = z'.val) (by kernel_rfl) (by kernel_rfl) (fun c a w d v h => by cases d <;> exact h) (fun c a w d v h => by cases d <;> exact h) ⟨⟨_, trivial⟩, rfl⟩ ?_
  simp only [List.take]
  refine wpT_q (by simp only [List.getElem?_toArray, List.getElem?_cons_zero] <;> rfl) (by rfl) (by rfl) ?_
  go_big_quiet_step (fail)
  refine wpQuiet_nil ?_
  refine wpT_e (by simp only [List.getElem?_toArray, List.getElem?_cons_succ, List.getElem?_cons_zero] <;> rfl) (by rfl) ?_
  refine wpList_load_mid (by rfl) 51 _ (by rfl) W.heap.size 0 (by rfl) (Array.toList (rwArr u z d9 d9a d9c)) _ (blk_range V31.out) Try.underlying51 rfl Try.infoRefView ?_
  go_wp2_with fail
  refine ⟨⟨⟨_, trivial⟩, rfl⟩, ?_⟩
  try simp only [Act.put, List.setIfInBounds_toArray, List.set_cons_succ, List.set_cons_zero]
  repeat (refine wpT_q (by simp only [List.getElem?_toArray, List.getElem?_cons_succ, List.getElem?_cons_zero] <;> rfl) (by rfl) (by rfl) ?_; go_big_quiet_step (fail); refine wpQuiet_nil ?_)
  refine wpT_nil ?_
  simp only [lastQ, List.drop]
  go_wp2_with (refine wpList_storeW (vs := rwArr u z d9 d9a d9c) R31.out (by rfl) 51 _ _ (by rfl) (by rfl) (by rfl) rfl Try.infoRefView (by rw [← Array.all_toList]; rfl) ?_)
  intro w8 f8 b8
  have F8 := Lib.hid (fr_new F31.out f8 (show W.heap.size ≤ W.heap.size + 1 by omega))
  have H8 := Lib.hid (H31.out.store f8 AP.out HS.out.2.1 R31.out noU32_z)
  have T8 := Lib.hid (T31.out.keep f8 (fun q hq he => by have := HTN.out q hq; omega))
  have L8 : Hid ((loadVar 51 ⟨W.heap.size + 1, 0, none⟩).run Try.prog w8 = .ok (.agg (rwArr u z d9 d9a d9c)) w8) := Lib.hid (run_loadVar_mid w8 (W.heap.size + 1) 0 51 (Array.toList (rwArr u z d9 d9a d9c)) _ (blk_range b8) Try.underlying51 rfl Try.infoRefView)
  have A8 : Hid ((asAddr (.pointer (some ⟨W.heap.size + 1, 0, none⟩))).run Try.prog w8 = .ok ⟨W.heap.size + 1, 0, none⟩ w8) := Lib.hid (by simp [go_sem])
  clear f8 b8
  go_wp2_with fail
  refine bodyPost_ret (v := .tuple #[.slice aT T.length cT, .agg (rwArr u z d9 d9a d9c)]) (by simp [results, Try.results62, Sem.run_bind, Result.andThen_ok, L8.out, A8.out]) rfl ?_
  exact ⟨aT, cT, d9a, d9c, rfl, T8.out, fun q hq => by have := HTN.out q hq; omega, H8.out, HDA.out, F8.out⟩

set_option maxHeartbeats 4000000 in
set_option maxRecDepth 100000 in
theorem refMixSample_any (sa sp : Int) (hsa : -9223372036854775808 ≤ sa ∧ sa ≤ 9223372036854775807) (hsp : -9223372036854775808 ≤ sp ∧ sp ≤ 9223372036854775807) (u : Vw) (z : VwP) (ds : List Int) (da : Option Addr) (dc : Nat) (W : World) (h : RwAt W u z ds da dc) (hr : ∀ x ∈ ds, 0 ≤ x ∧ x < 4294967296) (hds : ds.length ≤ 1000) (v : Vw) (hk : Like v u) (hg : v.Good) :
    Calls Try.prog 43 #[.agg (rwArr u z ds da dc), .int .i64 sa, .int .i64 sp] W (SmpOut u z da (mixS v sa sp ds).1 (mixS v sa sp ds).2 W) := by
  obtain ⟨i0, hi, hz0, hz1, hz2⟩ := info_parts Try.infoint
  obtain ⟨w1, hw1⟩ : ∃ w1, w1 = (W.alloc (.cells (rwArr u z ds da dc) 51)).alloc (.cells rwZ 51) := ⟨_, rfl⟩
  have f1 : Gr W w1 := by rw [hw1]; exact ((Fr.refl _ _).alloc _).alloc _
  have V1 := Lib.hid (show w1.heap[W.heap.size]? = some (.cells (rwArr u z ds da dc) 51 (0, 0)) by rw [hw1, heap_alloc_if, if_neg (by simp), heap_alloc_if, if_pos rfl])
  have R1 := Lib.hid (show w1.heap[W.heap.size + 1]? = some (.cells rwZ 51 (0, 0)) by rw [hw1, heap_alloc_if, if_pos (by simp)])
  have s1 : W.heap.size + 1 < w1.heap.size := by rw [hw1]; simp
  have F1 := Lib.hid f1
  have HW1 := Lib.hid hw1
  have H1 := Lib.hid (h.gr f1)
  have e1 := h.act.le
  have e2 := h.act.max
  have e3 := h.pas.le
  have e4 := h.pas.max
  have e5 := h.dr.le
  have e6 := h.dr.max
  obtain ⟨S, hS⟩ : ∃ S : Nat → Prop, S = fun k => k = W.heap.size ∨ k = W.heap.size + 1 := ⟨_, rfl⟩
  have AP := Lib.hid (show VwApart S u z from h.new (fun k hk => by rw [hS] at hk; omega))
  have HS := Lib.hid (show S W.heap.size ∧ S (W.heap.size + 1) ∧ ∀ k, S k → k < w1.heap.size by rw [hS]; exact ⟨.inl rfl, .inr rfl, fun k hk => by omega⟩)
  have LA := Lib.hid (show (u.act ≠ [] → ∀ q, z.aa = some q → q.block < W.heap.size) ∧ (u.pas ≠ [] → ∀ q, z.pa = some q → q.block < W.heap.size) ∧ (ds ≠ [] → ∀ q, da = some q → q.block < W.heap.size) from ⟨h.act.ltNE, h.pas.ltNE, h.dr.ltU⟩)
  have HR := Lib.hid hr
  have HG := Lib.hid hg
  have hq1 := hk.act.length_eq
  have hq2 := hk.pas.length_eq
  have hq3 := hg.act.len
  have hq4 := hg.pas.len
  have hq5 : u.act.length ≤ 64 := by omega
  have hq6 : u.pas.length ≤ 64 := by omega
  clear hw1 f1 h hS
  have CS1 := Lib.hid (fun w (f : Gr w1 w) => refMixSome_any ds da dc z.aa z.ac u.act v.act sa w (H1.out.gr f).dr (H1.out.gr f).act hk.act hg.act.le hq5 hr hds hsa)
  have hr2 := someS_range (f := v.act.length) (l := v.act) (n := sa) hr
  have hAl : (someS v.act.length ds v.act sa).1.length ≤ 64 := Nat.le_trans (someS_le hr) hq3
  have hBl : (someS v.pas.length (someS v.act.length ds v.act sa).2 v.pas sp).1.length ≤ 64 := Nat.le_trans (someS_le hr2.1) hq4
  have CS2 := Lib.hid (fun d2a d2c w (hd2 : SlA w d2a (someS v.act.length ds v.act sa).2.length d2c ((someS v.act.length ds v.act sa).2.map (Value.int .u32))) (f : Gr w1 w) => refMixSome_any (someS v.act.length ds v.act sa).2 d2a d2c z.pa z.pc u.pas v.pas sp w hd2 (H1.out.gr f).pas hk.pas hg.pas.le hq6 hr2.1 (by have := hr2.2; omega) hsp)
  unfold SomeOut at CS1 CS2
  have hd9l : (someS v.pas.length (someS v.act.length ds v.act sa).2 v.pas sp).2.length ≤ ds.length := Nat.le_trans (someS_range hr2.1).2 hr2.2
  have HM : Hid (mixS v sa sp ds = ((v.self :: ((someS v.act.length ds v.act sa).1 ++ (someS v.pas.length (someS v.act.length ds v.act sa).2 v.pas sp).1)).take 64, (someS v.pas.length (someS v.act.length ds v.act sa).2 v.pas sp).2)) := Lib.hid (by unfold mixS; rfl)
  generalize (someS v.pas.length (someS v.act.length ds v.act sa).2 v.pas sp).1 = B at CS2 HM hBl
  generalize (someS v.pas.length (someS v.act.length ds v.act sa).2 v.pas sp).2 = d9 at CS2 HM hd9l
  generalize (someS v.act.length ds v.act sa).1 = A at CS1 HM hAl
  generalize (someS v.act.length ds v.act sa).2 = d2 at CS1 CS2
  rw [HM.out]
  have hself := hk.self
  obtain ⟨T, hT⟩ : ∃ T, T = (v.self :: (A ++ B)).take 64 := ⟨_, rfl⟩
  rw [← hT]
  rw [← hself] at hT
  have HT0 := Lib.hid hT
  clear hk hg hr hq1 hq2 hq3 hq4 hr2 hT HM hself
  go_enter Try.func43, Try.ntmps43
  go_upto_region 1 with fail
  rw [← HW1.out]
  clear HW1
  have y0 := (Bx.of_block V1.out) 0 _ rfl
  have y1 := (Bx.of_block V1.out) 1 _ rfl
  have y2 := (Bx.of_block V1.out) 2 _ rfl
  have y5 := (Bx.of_block V1.out) 5 _ rfl
  go_upto_region 2 with fail
  obtain ⟨w2, hw2⟩ : ∃ w2, w2 = w1.alloc (.cells #[.int .i64 u.self] 3) := ⟨_, rfl⟩
  obtain ⟨ov, hov⟩ : ∃ ov, ov = Value.slice (some ⟨w1.heap.size, 0, none⟩) 1 1 := ⟨_, rfl⟩
  have f2 : Gr w1 w2 := by rw [hw2]; exact (Fr.refl _ _).alloc _
  have O2 := Lib.hid (show w2.ownsRow w1.heap.size 3 1 ov [u.self].length (ints [u.self]) by rw [hw2, hov]; exact own_one w1 _ _ _ (Nat.le_refl _))
  rw [← hw2, ← hov]
  have V2 := Lib.hid (blk_keep f2 V1.out (fun h => h))
  have R2 := Lib.hid (blk_keep f2 R1.out (fun h => h))
  have F2 := Lib.hid f2
  clear hw2 hov f2 y0 y1 y2 y5 V1 R1
  have y1 := (Bx.of_block V2.out) 1 _ rfl
  have y5 := (Bx.of_block V2.out) 5 _ rfl
  go_wp2_with fail
  refine (CS1.out _ F2.out).mono ?_
  rintro e w3 ⟨aA, cA, d2a, d2c, rfl, hA, hAn, hd2, hda, f3⟩
  have V3 := Lib.hid (blk_keep f3 V2.out (fun h => h))
  have R3 := Lib.hid (blk_keep f3 R2.out (fun h => h))
  have F3 := Lib.hid (Gr.trans F2.out f3)
  have O3 := Lib.hid (own_fr O2.out f3 (fun _ _ h => h))
  have HA := Lib.hid hA
  have HD2 := Lib.hid hd2
  have HDA1 := Lib.hid hda
  have k1 := hA.le
  have k2 := hA.max
  have k3 := hd2.le
  have k4 := hd2.max
  have HAN := Lib.hid (fun q (hq : aA = some q) => show W.heap.size < q.block by have := hAn q hq; have := F2.out.size; omega)
  clear hA hAn hda f3 hd2 V2 R2 F2 O2 CS1 y1 y5
  have y2 := (Bx.of_block V3.out) 2 _ rfl
  go_wp2_with fail
  refine (CS2.out d2a d2c _ HD2.out F3.out).mono ?_
  rintro e w4 ⟨aB, cB, d9a, d9c, rfl, hB, hBn, hd9, hda, f4⟩
  have V9 := Lib.hid (blk_keep f4 V3.out (fun h => h))
  have R9 := Lib.hid (blk_keep f4 R3.out (fun h => h))
  have F9' := Lib.hid (Gr.trans F3.out f4)
  have F9 := Lib.hid (Gr.trans F1.out F9'.out)
  have O4 := Lib.hid (own_fr O3.out f4 (fun _ _ h => h))
  have HA4 := Lib.hid (HA.out.keep f4 (fun _ _ h => h))
  have HB := Lib.hid hB
  have H9 : Hid (RwAt w4 u z d9 d9a d9c) := Lib.hid ⟨(H1.out.gr F9'.out).act, (H1.out.gr F9'.out).pas, hd9⟩
  have HDA := Lib.hid (HDA1.out.trans hda)
  have k5 := hB.le
  have k6 := hB.max
  have k7 := hd9.le
  have k8 := hd9.max
  have s4 := F9'.out.size
  have HBN := Lib.hid (fun q (hq : aB = some q) => show w3.heap.size ≤ q.block ∧ W.heap.size < q.block by have := hBn q hq; have := F3.out.size; omega)
  have HOV := Lib.hid (fun q (hq : ov.ownBlock = some q) => show q < w3.heap.size from (O3.out.lt q hq).2)
  clear hB hBn hda f4 hd9 V3 R3 F3 O3 HA HD2 HDA1 CS2 H1 F1 y2
  have yc := (Bx.of_block V9.out) 5 _ rfl
  have zc := Lib.frozen_of_heap V9.out 5
  go_upto_region 5 with fail
  obtain ⟨w30, hw30⟩ : ∃ w30, w30 = World.setCell w4 ⟨W.heap.size, 5, none⟩ (.slice d9a d9.length d9c) := ⟨_, rfl⟩
  rw [← hw30]
  have f30 : Fr (fun k => k = W.heap.size) w4 w30 := by rw [hw30]; exact (Fr.refl (fun k => k = W.heap.size) _).setCell (p := ⟨W.heap.size, 5, none⟩) (.inl rfl) _
  have b30 : w30.heap[W.heap.size]? = some (.cells (rwArr u z d9 d9a d9c) 51 (0, 0)) := by rw [hw30]; exact blk_set1 V9.out 5 _
  clear hw30 yc zc
  have V30 := Lib.hid b30
  have R30 := Lib.hid (blk_keep f30 R9.out (by omega))
  have F30 := Lib.hid (fr_new F9.out f30 (Nat.le_refl _))
  have HX := H9.out.store f30 AP.out HS.out.1 V9.out (noU32_arr _ _ _ _ _)
  have H30 := Lib.hid (show RwAt w30 u z d9 d9a d9c from HX)
  have G30 := Lib.hid f30
  clear HX f30 b30 V9 R9 F9 H9
  have g30 := G30.out
  have hb1 : ∀ k, k = W.heap.size → k < w1.heap.size := fun k hk => by omega
  have O30 := Lib.hid (own_fr O4.out g30 (fun q hq he => by have := (O4.out.lt q hq).1; omega))
  have HA30 := Lib.hid (HA4.out.keep g30 (fun q hq he => by have := HAN.out q hq; omega))
  have HB30 := Lib.hid (HB.out.keep g30 (fun q hq he => by have := (HBN.out q hq).2; omega))
  have s30 := g30.size
  clear g30 hb1 G30 HA4 HB O4 HAN
  go_upto_region 5 with fail
  go_wp2_with (at_builtin; refine wpList_appI (by rfl) _ _ (by rfl) O30.out HA30.out (by rfl) (by rfl) (by omega) (by simp <;> omega) ?_)
  intro v31 w31 ho31 hgr
  have g31 : Fr (fun k => w1.heap.size ≤ k) w30 w31 := ((Fr.refl (fun k => w1.heap.size ≤ k) w30)).grown hgr (fun q hq => .inl (O30.out.lt q hq).1)
  have g31' : Fr (fun k => ov.ownBlock = some k) w30 w31 := ((Fr.refl (fun k => ov.ownBlock = some k) w30)).grown hgr (fun q hq => .inl hq)
  have HB31 := Lib.hid (HB30.out.keep g31' (fun q hq he => by have := (HBN.out q hq).1; have := HOV.out _ he; omega))
  have O31 := Lib.hid (show w31.ownsRow w1.heap.size 3 1 v31 ([u.self] ++ A).length (ints ([u.self] ++ A)) by simpa using ho31)
  have V31' := Lib.hid (blk_keep g31 V30.out (by omega))
  have R31' := Lib.hid (blk_keep g31 R30.out (by omega))
  have F31' := Lib.hid (Fr.trans F30.out g31 (fun k hk => .inr (by omega)))
  have H31' := Lib.hid (H30.out.keepLt g31 (fun hl q hq => by have := LA.out.1 hl q hq; omega) (fun hl q hq => by have := LA.out.2.1 hl q hq; omega) (fun hl q hq => by
    obtain ⟨q0, h0, h1⟩ := HDA.out q hq
    have := LA.out.2.2 (fun e => hl (List.eq_nil_of_length_eq_zero (by rw [e] at hd9l; simpa using hd9l))) q0 h0
    omega))
  have s31 := g31.size
  clear ho31 hgr g31 g31' O30 HA30 HB30 HBN HOV V30 R30 F30 H30
  go_wp2_with (at_builtin; refine wpList_appI (by rfl) _ _ (by rfl) O31.out HB31.out (by rfl) (by rfl) (by omega) (by simp <;> omega) ?_)
  intro v32 w32 ho32 hgr
  have g32 : Fr (fun k => w1.heap.size ≤ k) w31 w32 := ((Fr.refl (fun k => w1.heap.size ≤ k) w31)).grown hgr (fun q hq => .inl (O31.out.lt q hq).1)
  have O32 := Lib.hid (show w32.ownsRow w1.heap.size 3 1 v32 ([u.self] ++ A ++ B).length (ints ([u.self] ++ A ++ B)) by simpa using ho32)
  have V32 := Lib.hid (blk_keep g32 V31'.out (by omega))
  have R32 := Lib.hid (blk_keep g32 R31'.out (by omega))
  have F32 := Lib.hid (Fr.trans F31'.out g32 (fun k hk => .inr (by omega)))
  have H32 := Lib.hid (H31'.out.keepLt g32 (fun hl q hq => by have := LA.out.1 hl q hq; omega) (fun hl q hq => by have := LA.out.2.1 hl q hq; omega) (fun hl q hq => by
    obtain ⟨q0, h0, h1⟩ := HDA.out q hq
    have := LA.out.2.2 (fun e => hl (List.eq_nil_of_length_eq_zero (by rw [e] at hd9l; simpa using hd9l))) q0 h0
    omega))
  clear ho32 hgr g32 O31 HB31 V31' R31' F31' H31' LA hd9l
  obtain ⟨a9, c9, rfl, h9, h9p, -⟩ := SlA.of_own O32.out
  obtain ⟨R, hR⟩ : ∃ R, R = [u.self] ++ A ++ B := ⟨_, rfl⟩
  have hRl : R.length ≤ 129 := by rw [hR]; simp; omega
  have hTR : T = R.take 64 := by rw [HT0.out, hR]; simp
  rw [← hR] at h9 ⊢
  have H9' := Lib.hid h9
  have HTR := Lib.hid hTR
  have HP9 := Lib.hid h9p
  have k9 := h9.le
  have k10 := h9.max
  clear hR hTR h9 h9p O32 HT0
  go_upto_region 6 with fail
  have HTN := Lib.hid (fun q (hq : a9 = some q) => (HP9.out q hq).1)
  by_cases h64 : (64 : Int) < (R.length : Int)
  · have hT64 : T.length = 64 := by rw [HTR.out]; simp; omega
    have HT64 := Lib.hid hT64
    have HT32 := Lib.hid (show SlA w32 a9 T.length c9 (ints T) by rw [hT64, HTR.out]; rw [show ints (R.take 64) = (ints R).take 64 by simp]; exact H9'.out.take 64 64 (by omega))
    clear hT64
    have V31 := Lib.hid (show w32.drew.heap[W.heap.size]? = some (.cells (rwArr u z d9 d9a d9c) 51 (0, 0)) from V32.out)
    have R31 := Lib.hid (show w32.drew.heap[W.heap.size + 1]? = some (.cells rwZ 51 (0, 0)) from R32.out)
    have F31 := Lib.hid (F32.out.drew)
    have H31 := Lib.hid (H32.out.gr ((Fr.refl _ _).drew))
    have T31 := Lib.hid (HT32.out.keep ((Fr.refl (fun _ => False) _).drew) (fun _ _ h => h))
    clear V32 R32 F32 H32 HT32
    haveI : Nonempty (WC (fun _ => True)) := ⟨⟨w32, trivial⟩⟩
    go_upto_region 8 with fail
    refine wp_region_lastO 3 [1] [] [0, 1, 2] (fun w' => ∃ z' : WC (fun _ => True), w' = z'.val) (by kernel_rfl) (by kernel_rfl) (fun c a w d v h => by cases d <;> exact h) (fun c a w d v h => by cases d <;> exact h) ⟨⟨_, trivial⟩, rfl⟩ ?_
    simp only [List.take]
    refine wpT_q (by simp only [List.getElem?_toArray, List.getElem?_cons_zero] <;> rfl) (by rfl) (by rfl) ?_
    go_big_quiet_step (fail)
    refine wpQuiet_nil ?_
    refine wpT_e (by simp only [List.getElem?_toArray, List.getElem?_cons_succ, List.getElem?_cons_zero] <;> rfl) (by rfl) ?_
    refine wpList_load_mid (by rfl) 51 _ (by rfl) W.heap.size 0 (by rfl) (Array.toList (rwArr u z d9 d9a d9c)) _ (blk_range V31.out) Try.underlying51 rfl Try.infoRefView ?_
    go_wp2_with fail
    refine ⟨⟨⟨_, trivial⟩, rfl⟩, ?_⟩
    try simp only [Act.put, List.setIfInBounds_toArray, List.set_cons_succ, List.set_cons_zero]
    repeat (refine wpT_q (by simp only [List.getElem?_toArray, List.getElem?_cons_succ, List.getElem?_cons_zero] <;> rfl) (by rfl) (by rfl) ?_; go_big_quiet_step (fail); refine wpQuiet_nil ?_)
    refine wpT_nil ?_
    simp only [lastQ, List.drop]
    go_wp2_with (refine wpList_storeW (vs := rwArr u z d9 d9a d9c) R31.out (by rfl) 51 _ _ (by rfl) (by rfl) (by rfl) rfl Try.infoRefView (by rw [← Array.all_toList]; rfl) ?_)
    intro w8 f8 b8
    have F8 := Lib.hid (fr_new F31.out f8 (show W.heap.size ≤ W.heap.size + 1 by omega))
    have H8 := Lib.hid (H31.out.store f8 AP.out HS.out.2.1 R31.out noU32_z)
    have T8 := Lib.hid (T31.out.keep f8 (fun q hq he => by have := HTN.out q hq; omega))
    have L8 : Hid ((loadVar 51 ⟨W.heap.size + 1, 0, none⟩).run Try.prog w8 = .ok (.agg (rwArr u z d9 d9a d9c)) w8) := Lib.hid (run_loadVar_mid w8 (W.heap.size + 1) 0 51 (Array.toList (rwArr u z d9 d9a d9c)) _ (blk_range b8) Try.underlying51 rfl Try.infoRefView)
    have A8 : Hid ((asAddr (.pointer (some ⟨W.heap.size + 1, 0, none⟩))).run Try.prog w8 = .ok ⟨W.heap.size + 1, 0, none⟩ w8) := Lib.hid (by simp [go_sem])
    clear f8 b8
    go_wp2_with fail
    refine bodyPost_ret (v := .tuple #[.slice a9 64 c9, .agg (rwArr u z d9 d9a d9c)]) (by simp [results, Try.results43, Sem.run_bind, Result.andThen_ok, L8.out, A8.out]) rfl ?_
    exact ⟨a9, c9, d9a, d9c, by rw [HT64.out], T8.out, fun q hq => by have := HTN.out q hq; omega, H8.out, HDA.out, F8.out⟩
  · have hTe : T = R := by rw [HTR.out]; exact List.take_of_length_le (by omega)
    have HTE := Lib.hid hTe
    have HT32 := Lib.hid (show SlA w32 a9 T.length c9 (ints T) by rw [hTe]; exact H9'.out)
    clear hTe
    have V31 := Lib.hid (show w32.drew.heap[W.heap.size]? = some (.cells (rwArr u z d9 d9a d9c) 51 (0, 0)) from V32.out)
    have R31 := Lib.hid (show w32.drew.heap[W.heap.size + 1]? = some (.cells rwZ 51 (0, 0)) from R32.out)
    have F31 := Lib.hid (F32.out.drew)
    have H31 := Lib.hid (H32.out.gr ((Fr.refl _ _).drew))
    have T31 := Lib.hid (HT32.out.keep ((Fr.refl (fun _ => False) _).drew) (fun _ _ h => h))
    clear V32 R32 F32 H32 HT32
    haveI : Nonempty (WC (fun _ => True)) := ⟨⟨w32, trivial⟩⟩
    go_upto_region 8 with fail
    refine wp_region_lastO 3 [1] [] [0, 1, 2] (fun w' => ∃ z' : WC (fun _ => True), w' = z'.val) (by kernel_rfl) (by kernel_rfl) (fun c a w d v h => by cases d <;> exact h) (fun c a w d v h => by cases d <;> exact h) ⟨⟨_, trivial⟩, rfl⟩ ?_
    simp only [List.take]
    refine wpT_q (by simp only [List.getElem?_toArray, List.getElem?_cons_zero] <;> rfl) (by rfl) (by rfl) ?_
    go_big_quiet_step (fail)
    refine wpQuiet_nil ?_
    refine wpT_e (by simp only [List.getElem?_toArray, List.getElem?_cons_succ, List.getElem?_cons_zero] <;> rfl) (by rfl) ?_
    refine wpList_load_mid (by rfl) 51 _ (by rfl) W.heap.size 0 (by rfl) (Array.toList (rwArr u z d9 d9a d9c)) _ (blk_range V31.out) Try.underlying51 rfl Try.infoRefView ?_
    go_wp2_with fail
    refine ⟨⟨⟨_, trivial⟩, rfl⟩, ?_⟩
    try simp only [Act.put, List.setIfInBounds_toArray, List.set_cons_succ, List.set_cons_zero]
    repeat (refine wpT_q (by simp only [List.getElem?_toArray, List.getElem?_cons_succ, List.getElem?_cons_zero] <;> rfl) (by rfl) (by rfl) ?_; go_big_quiet_step (fail); refine wpQuiet_nil ?_)
    refine wpT_nil ?_
    simp only [lastQ, List.drop]
    go_wp2_with (refine wpList_storeW (vs := rwArr u z d9 d9a d9c) R31.out (by rfl) 51 _ _ (by rfl) (by rfl) (by rfl) rfl Try.infoRefView (by rw [← Array.all_toList]; rfl) ?_)
    intro w8 f8 b8
    have F8 := Lib.hid (fr_new F31.out f8 (show W.heap.size ≤ W.heap.size + 1 by omega))
    have H8 := Lib.hid (H31.out.store f8 AP.out HS.out.2.1 R31.out noU32_z)
    have T8 := Lib.hid (T31.out.keep f8 (fun q hq he => by have := HTN.out q hq; omega))
    have L8 : Hid ((loadVar 51 ⟨W.heap.size + 1, 0, none⟩).run Try.prog w8 = .ok (.agg (rwArr u z d9 d9a d9c)) w8) := Lib.hid (run_loadVar_mid w8 (W.heap.size + 1) 0 51 (Array.toList (rwArr u z d9 d9a d9c)) _ (blk_range b8) Try.underlying51 rfl Try.infoRefView)
    have A8 : Hid ((asAddr (.pointer (some ⟨W.heap.size + 1, 0, none⟩))).run Try.prog w8 = .ok ⟨W.heap.size + 1, 0, none⟩ w8) := Lib.hid (by simp [go_sem])
    clear f8 b8
    go_wp2_with fail
    refine bodyPost_ret (v := .tuple #[.slice a9 R.length c9, .agg (rwArr u z d9 d9a d9c)]) (by simp [results, Try.results43, Sem.run_bind, Result.andThen_ok, L8.out, A8.out]) rfl ?_
    exact ⟨a9, c9, d9a, d9c, by rw [HTE.out], T8.out, fun q hq => by have := HTN.out q hq; omega, H8.out, HDA.out, F8.out⟩
end Go.Proofs.Ytdpnkikaciigoaa

/-
  A view with nodes, and the document's (bellhoplaw12.made) (printed by gen_made.py).
-/
namespace Go.Proofs.Ytdpnkikaciigoaa
open Go.RowKit Go.Proofs

theorem exec_bldW0 (ρ : Operand → Value) (w : World) (dst : Option Tmp) (ty : TypeId) (pos : String) (after : Array Edge) {x0 x3 x4 : Operand} {i0 i3 i4 : Int} (h0 : ρ x0 = .int .i64 i0) (h3 : ρ x3 = .int .i64 i3) (h4 : ρ x4 = .int .i64 i4) :
    (execOp ρ ⟨dst, .build 51 #[(0, x0), (3, x3), (4, x4)], ty, pos, after, none⟩).run Try.prog w = .ok (.value (.agg #[.int .i64 i0, .slice none 0 0, .slice none 0 0, .int .i64 i3, .int .i64 i4, .slice none 0 0])) w := by simp [go_sem, h0, h3, h4]
theorem wpList_bldW0 {ops : Array Oper} {rest : List Oper} {dst : Option Tmp} {ty : TypeId} {pos : String} {after : Array Edge} {A : Act} {w : World} {Q : Exit → Act → World → Prop} {x0 x3 x4 : Operand} {i0 i3 i4 : Int} (h0 : A.eval x0 = .int .i64 i0) (h3 : A.eval x3 = .int .i64 i3) (h4 : A.eval x4 = .int .i64 i4)
    (h : wpList Try.prog ops Q rest (A.put dst (.agg #[.int .i64 i0, .slice none 0 0, .slice none 0 0, .int .i64 i3, .int .i64 i4, .slice none 0 0])) w) :
    wpList Try.prog ops Q (⟨dst, .build 51 #[(0, x0), (3, x3), (4, x4)], ty, pos, after, none⟩ :: rest) A w := by
  refine wpList_plain rfl fun K hK => ?_
  unfold Oper.wp
  rw [exec_bldW0 A.eval w dst ty pos after h0 h3 h4]
  exact hK _ _ h

/-- the state while nodes are added -/
abbrev mdS (B : Nat) : Nat → Prop := fun k => k = B ∨ k = B + 1
structure MdSt (W : World) (B q m : Nat) (w : World) : Prop where
  st : ∃ v u, VpSt W q m (.pointer none) w v u [] ∧ v.self = 9 ∧ v.am = 5 ∧ v.pm = 6 ∧ ∃ y z da dc, VpW W q m (.pointer none) w v y u z [] [] da dc ∧ VwApart (mdS B) v y ∧ VwApart (mdS B) u z
def MadeEnd (W : World) (ds : List Int) (da : Option Addr) (dc : Nat) (e : Ending) (w' : World) : Prop :=
  ∃ v y u z, e = .returned (.tuple #[.agg (v.arr y), .agg (rwArr u z ds da dc)]) ∧ VwAt w' v y ∧ RwAt w' u z ds da dc ∧ Like v u ∧ v.Good ∧ v.Sane ∧ v.self = 9 ∧ v.am = 5 ∧ v.pm = 6 ∧ Gr W w'
theorem pnone_no (k : Nat) : ¬ pblk (.pointer none) k := fun h => by unfold pblk at h; cases h
theorem vJoin_self (v : Vw) (n : Int) : (vJoin v n).self = v.self ∧ (vJoin v n).am = v.am ∧ (vJoin v n).pm = v.pm := by unfold vJoin; split <;> exact ⟨rfl, rfl, rfl⟩
theorem vKnow_self (v : Vw) (n : Int) (ds : List Int) : (vKnow v n ds).1.self = v.self ∧ (vKnow v n ds).1.am = v.am ∧ (vKnow v n ds).1.pm = v.pm := by unfold vKnow; split <;> exact ⟨rfl, rfl, rfl⟩
theorem like_len2 {v u : Vw} (h : Like v u) (g : v.Good) : u.act.length ≤ 100 ∧ u.pas.length ≤ 100 ∧ 0 ≤ u.pm := by
  have := h.act.length_eq
  have := h.pas.length_eq
  have := g.act.len
  have := g.pas.len
  have := g.pas.least
  have := h.pm
  omega
/-- a node of a number: its last three bits, and some more -/
theorem and7_bound (x : Int) : ∃ v : Int, bits .and .i64 x 7 = v ∧ 0 ≤ v ∧ v ≤ 7 := ⟨_, rfl, (and7_range x).1, (and7_range x).2⟩

set_option maxHeartbeats 16000000 in
set_option maxRecDepth 100000 in
theorem made_any (a0 : Option Addr) (c0 : Nat) (la : List Int) (a1 : Option Addr) (c1 : Nat) (lp : List Int) (da : Option Addr) (dc : Nat) (ds : List Int) (W : World) (h0 : SlA W a0 la.length c0 (ints la)) (h1 : SlA W a1 lp.length c1 (ints lp)) (hd : SlA W da ds.length dc (ds.map (Value.int .u32))) :
    Calls Try.prog 41 #[.slice a0 la.length c0, .slice a1 lp.length c1, .slice da ds.length dc] W (MadeEnd W ds da dc) := by
  obtain ⟨iz, hz1, hz2, hzs⟩ := info_pair Try.zeroView
  obtain ⟨ir, hr1, hr2, hrs⟩ := info_pair Try.zeroRefView
  obtain ⟨w0, hw0⟩ : ∃ w0, w0 = (W.alloc (.cells viewZ 29)).alloc (.cells rwZ 51) := ⟨_, rfl⟩
  have f0 : Gr W w0 := by rw [hw0]; exact ((Fr.refl _ _).alloc _).alloc _
  have A0 := Lib.hid (show w0.heap[W.heap.size]? = some (.cells viewZ 29 (0, 0)) by rw [hw0, heap_alloc_if, if_neg (by simp), heap_alloc_if, if_pos rfl])
  have B0 := Lib.hid (show w0.heap[W.heap.size + 1]? = some (.cells rwZ 51 (0, 0)) by rw [hw0, heap_alloc_if, if_pos (by simp)])
  have s0 : W.heap.size + 2 ≤ w0.heap.size := by rw [hw0]; simp
  have F0 := Lib.hid f0
  have HW := Lib.hid hw0
  have HA := Lib.hid (h0.keep f0 (fun _ _ h => h))
  have HP := Lib.hid (h1.keep f0 (fun _ _ h => h))
  have HD := Lib.hid (hd.keep f0 (fun _ _ h => h))
  have e1 := h0.le
  have e2 := h0.max
  have e3 := h1.le
  have e4 := h1.max
  have e5 := hd.le
  have e6 := hd.max
  have CN := Lib.hid (viewNew_any 9 5 6 w0)
  rw [vwNew_id 9 5 6 (by omega) (by omega)] at CN
  obtain ⟨n1, hn1⟩ : ∃ n, n = min la.length 5 := ⟨_, rfl⟩
  have HN1 := Lib.hid hn1
  obtain ⟨n2, hn2⟩ : ∃ n, n = min lp.length 6 := ⟨_, rfl⟩
  have HN2 := Lib.hid hn2
  clear hw0 f0 h0 h1 hd hn1 hn2
  go_enter Try.func41, Try.ntmps41
  go_upto_region 1 with fail
  rw [← HW.out]
  clear HW
  go_wp2_with fail
  refine CN.out.mono ?_
  rintro e w1 ⟨rfl, f1⟩
  have F1 := Lib.hid f1
  clear f1 CN
  go_wp2_with (refine wpList_fresh (vs := (⟨9, [], 5, [], 6⟩ : Vw).arr vwNone) hz1 hz2 Try.infoView (by rfl) (by rw [← Array.all_toList]; rfl) (by rfl) (by rfl) ?_)
  intro w2 f2 b2 l2
  obtain ⟨q, hq⟩ : ∃ q, q = w1.heap.size := ⟨_, rfl⟩
  rw [← hq] at b2 l2 ⊢
  have hWq : w0.heap.size ≤ q := by rw [hq]; exact F1.out.size
  have V2 := Lib.hid b2
  have F2 := Lib.hid (Gr.trans F1.out f2)
  clear f2 b2 F1 hq
  go_upto_region 2 with fail
  refine wp_region_lit ?_
  refine wpList_bldW0 (i0 := 9) (i3 := 5) (i4 := 6) (by rfl) (by rfl) (by rfl) ?_
  refine wpList_fresh (vs := rwArr ⟨9, [], 5, [], 6⟩ vwNone [] none 0) hr1 hr2 Try.infoRefView (by rfl) (by rw [← Array.all_toList]; rfl) (by rfl) (by rfl) ?_
  intro w3 f3 b3 l3
  obtain ⟨m, hm⟩ : ∃ m, m = w2.heap.size := ⟨_, rfl⟩
  rw [← hm] at b3 l3 ⊢
  have hCc : VpC w0 q m (.pointer none) := ⟨hWq, by omega, fun k h => absurd h (pnone_no k), by omega, pnone_no q, pnone_no m⟩
  have HCc := Lib.hid hCc
  have hqm : q < m := by omega
  have ST3 : Hid (MdSt w0 W.heap.size q m w3) := Lib.hid ⟨⟨⟨9, [], 5, [], 6⟩, ⟨9, [], 5, [], 6⟩, {
    w := ⟨vwNone, vwNone, none, 0, {
      bv := blk_keep f3 V2.out (fun h => h)
      bm := b3
      va := ⟨SlA.nil _, SlA.nil _, ⟨Good.nil (by simp only; omega) (by simp only; omega), Good.nil (by simp only; omega) (by simp only; omega)⟩⟩
      ra := ⟨SlA.nil _, SlA.nil _, SlA.nil _⟩
      av := VwApart.none _ _
      au := VwApart.none _ _
      dr := DrawV.nil _
      sep := VwSep.none
      da := .inl rfl
      gr := Gr.trans F2.out f3 }⟩
    like := ⟨rfl, List.Perm.refl _, List.Perm.refl _, rfl, rfl⟩
    good := ⟨Good.nil (by simp only; omega) (by simp only; omega), Good.nil (by simp only; omega) (by simp only; omega)⟩
    sane := ⟨by simp, by simp, by simp⟩ }, rfl, rfl, rfl, vwNone, vwNone, none, 0, {
      bv := blk_keep f3 V2.out (fun h => h)
      bm := b3
      va := ⟨SlA.nil _, SlA.nil _, ⟨Good.nil (by simp only; omega) (by simp only; omega), Good.nil (by simp only; omega) (by simp only; omega)⟩⟩
      ra := ⟨SlA.nil _, SlA.nil _, SlA.nil _⟩
      av := VwApart.none _ _
      au := VwApart.none _ _
      dr := DrawV.nil _
      sep := VwSep.none
      da := .inl rfl
      gr := Gr.trans F2.out f3 }, VwApart.none _ _, VwApart.none _ _⟩⟩
  clear hm f3 b3 l3 V2 F2 hz1 hz2 hzs hr1 hr2 hrs hCc l2
  go_upto_region 3 with fail
  go_wp2_with fail
  go_loopw [10] (fun iv wr => ∃ (k : Nat), iv = .int .i64 k ∧ k ≤ n1 ∧ MdSt w0 W.heap.size q m wr) (fun iv _ => n1 - (intOf iv).toNat)
  case atStart => exact ⟨0, rfl, Nat.zero_le _, ST3.out⟩
  case round =>
    clear ST3
    obtain ⟨k, rfl, hk, hst⟩ := hrel
    have ST := Lib.hid hst
    clear hst
    go_upto_region 4 with fail
    go_cut [21] from 14 to 21 (fun c wx => c = .bool (decide (k < n1)) ∧ wr = wx)
    case first =>
      by_cases h1 : (k : Int) < (la.length : Int)
      · by_cases h2 : (k : Int) < 5
        · have hd := Lib.hid (show decide (k < n1) = true by have := HN1.out; simp; omega)
          go_wp2_with fail
          go_meet
          exact ⟨by rw [hd.out], rfl⟩
        · have hd := Lib.hid (show decide (k < n1) = false by have := HN1.out; simp; omega)
          go_wp2_with fail
          go_meet
          exact ⟨by rw [hd.out], rfl⟩
      · have hd := Lib.hid (show decide (k < n1) = false by have := HN1.out; simp; omega)
        go_wp2_with fail
        go_meet
        exact ⟨by rw [hd.out], rfl⟩
    case rest =>
      obtain ⟨rfl, rfl⟩ := hcut
      by_cases hlt : k < n1
      · rw [decide_eq_true hlt]
        have hkl : k < la.length := by have := HN1.out; omega
        obtain ⟨v, u, hst, hv1, hv2, hv3, y, z, da', dc', hw, hap1, hap2⟩ := ST.out.st
        have AP1 := Lib.hid hap1
        have AP2 := Lib.hid hap2
        have hs9 := hw.gr.size
        clear hap1 hap2
        obtain ⟨b, o, rfl, hcW⟩ := HA.out.int k hkl
        have hbW : b < w0.heap.size := lt_of_cell hcW
        have hcc := hw.gr.cell hcW (fun h => h)
        obtain ⟨xv, hxv, hx0, hx7⟩ := and7_bound la[k]
        generalize la[k] = xx at *
        have G := Lib.hid hcc
        have HW := Lib.hid hw
        have HST := Lib.hid hst
        obtain ⟨hla, hlp, hpm⟩ := like_len2 hst.like hst.good
        clear hcW hcc hw hst ST
        have hk1 := like_join HST.out.like HST.out.good (1 + xv)
        have hk3 := vJoin_good HST.out.good (1 + xv)
        have hk4 := vJoin_sane HST.out.good HST.out.sane (1 + xv)
        have hk5 := vJoin_self v (1 + xv)
        have CV := Lib.hid (fun w (h : VpW w0 q m (.pointer none) w v y u z [] [] da' dc') => viewJoin_any v y (1 + xv) w h.va)
        unfold VEnd0 at CV
        have CR := Lib.hid (fun w (h : RwAt w u z [] da' dc') => refJoin_any u z (1 + xv) [] da' dc' w h hla hlp)
        unfold RwEnd at CR
        generalize vJoinOk v (1 + xv) = ok at *
        generalize rJoinNo u (1 + xv) = ok2 at *
        generalize vJoin v (1 + xv) = v' at *
        generalize rJoin u (1 + xv) = u' at *
        have HK := Lib.hid (And.intro hk1 (And.intro hk3 (And.intro hk4 (And.intro (hk5.1.trans hv1) (And.intro (hk5.2.1.trans hv2) (hk5.2.2.trans hv3))))))
        clear hk1 hk3 hk4 hk5 hla hlp hpm hv1 hv2 hv3 HST
        go_upto_region 6 with fail
        have HW1 := Lib.hid (HW.out.keep ((Fr.refl _ _).drew))
        haveI : Nonempty (WC (fun w => w.cell? ⟨b, o + k, none⟩ = some (.int .i64 xx))) := ⟨⟨wr, G.out⟩⟩
        have x0 : ∀ z' : WC (fun w => w.cell? ⟨b, o + k, none⟩ = some (.int .i64 xx)), z'.val.cell? ⟨b, o + k, none⟩ = some (.int .i64 xx) := fun z' => z'.ok
        clear HW
        refine wp_region_ord [0, 7, 11] [] [0, 1, 2, 3, 4, 5, 6, 7, 8, 9, 10, 11] (fun w' => ∃ z' : WC (fun w => w.cell? ⟨b, o + k, none⟩ = some (.int .i64 xx)), w' = z'.val) (by kernel_rfl) (by kernel_rfl) (fun c a w d v h => by cases d <;> exact h) (fun c a w d v h => by cases d <;> exact h) ⟨⟨wr.drew, G.out⟩, rfl⟩ ?_
        refine wpT_e (by simp only [List.getElem?_toArray, List.getElem?_cons_zero] <;> rfl) (by rfl) ?_
        refine wpList_load_mid (by rfl) 29 _ (by rfl) q 0 (by rfl) (Array.toList (v.arr y)) _ (blk_range HW1.out.bv) Try.underlying29 rfl Try.infoView ?_
        go_wp2_with fail
        refine ⟨⟨⟨wr.drew, G.out⟩, rfl⟩, ?_⟩
        try simp only [Act.put, List.setIfInBounds_toArray, List.set_cons_succ, List.set_cons_zero]
        repeat (refine wpT_q (by simp only [List.getElem?_toArray, List.getElem?_cons_succ, List.getElem?_cons_zero] <;> rfl) (by rfl) (by rfl) ?_; go_big_quiet_step (fail); refine wpQuiet_nil ?_)
        refine wpT_e (by simp only [List.getElem?_toArray, List.getElem?_cons_succ, List.getElem?_cons_zero] <;> rfl) (by rfl) ?_
        go_wp2_with fail
        refine (CV.out _ HW1.out).mono ?_
        rintro e w2 ⟨y', rfl, h2, f2, k2⟩
        have G2 := Lib.hid (f2.cell (show wr.drew.cell? ⟨b, o + k, none⟩ = some (.int .i64 xx) from G.out) (fun h => h))
        have HW2 := Lib.hid (HW1.out.keep f2)
        have H2 := Lib.hid h2
        have AV := Lib.hid (HW1.out.av.next k2 (vpS_lt HW1.out))
        have AV9 := Lib.hid (AP1.out.next k2 (fun k hk => by have := HW1.out.gr.size; omega))
        clear h2 f2 k2 HW1 CV
        go_wp2_with fail
        refine ⟨⟨⟨w2, G2.out⟩, rfl⟩, ?_⟩
        repeat (refine wpT_q (by simp only [List.getElem?_toArray, List.getElem?_cons_succ, List.getElem?_cons_zero] <;> rfl) (by rfl) (by rfl) ?_; go_big_quiet_step (fail); refine wpQuiet_nil ?_)
        refine wpT_e (by simp only [List.getElem?_toArray, List.getElem?_cons_succ, List.getElem?_cons_zero] <;> rfl) (by rfl) ?_
        go_wp2_with (refine wpList_storeW (vs := v'.arr y') HW2.out.bv (by rfl) 29 _ _ (by rfl) (by rfl) (by rfl) rfl Try.infoView (by rw [← Array.all_toList]; rfl) ?_)
        intro w3 f3 b3
        refine wpList_nil ?_
        have HW3 := Lib.hid (HW2.out.storeV HCc.out f3 b3 H2.out AV.out VwSep.none)
        have G3 := Lib.hid (f3.cell G2.out (fun hk => by simp only at hk; omega))
        clear f3 b3 HW2 H2 AV
        refine ⟨⟨⟨w3, G3.out⟩, rfl⟩, ?_⟩
        clear x0 this
        refine wpT_nil ?_
        go_upto_region 7 with fail
        haveI : Nonempty (WC (fun w => w.cell? ⟨b, o + k, none⟩ = some (.int .i64 xx))) := ⟨⟨w3, G3.out⟩⟩
        have x0 : ∀ z' : WC (fun w => w.cell? ⟨b, o + k, none⟩ = some (.int .i64 xx)), z'.val.cell? ⟨b, o + k, none⟩ = some (.int .i64 xx) := fun z' => z'.ok
        have HW4 := Lib.hid (HW3.out.keep ((Fr.refl _ _).drew))
        clear HW3
        refine wp_region_ord [0, 7, 11] [] [0, 1, 2, 3, 4, 5, 6, 7, 8, 9, 10, 11] (fun w' => ∃ z' : WC (fun w => w.cell? ⟨b, o + k, none⟩ = some (.int .i64 xx)), w' = z'.val) (by kernel_rfl) (by kernel_rfl) (fun c a w d v h => by cases d <;> exact h) (fun c a w d v h => by cases d <;> exact h) ⟨⟨w3.drew, G3.out⟩, rfl⟩ ?_
        refine wpT_e (by simp only [List.getElem?_toArray, List.getElem?_cons_zero] <;> rfl) (by rfl) ?_
        refine wpList_load_mid (by rfl) 51 _ (by rfl) m 0 (by rfl) (Array.toList (rwArr u z [] da' dc')) _ (blk_range HW4.out.bm) Try.underlying51 rfl Try.infoRefView ?_
        go_wp2_with fail
        refine ⟨⟨⟨w3.drew, G3.out⟩, rfl⟩, ?_⟩
        try simp only [Act.put, List.setIfInBounds_toArray, List.set_cons_succ, List.set_cons_zero]
        repeat (refine wpT_q (by simp only [List.getElem?_toArray, List.getElem?_cons_succ, List.getElem?_cons_zero] <;> rfl) (by rfl) (by rfl) ?_; go_big_quiet_step (fail); refine wpQuiet_nil ?_)
        refine wpT_e (by simp only [List.getElem?_toArray, List.getElem?_cons_succ, List.getElem?_cons_zero] <;> rfl) (by rfl) ?_
        go_wp2_with fail
        refine (CR.out _ HW4.out.ra).mono ?_
        rintro e w5 ⟨z', da2, dc2, rfl, h3, k3, hda3, f3⟩
        have HW5 := Lib.hid (HW4.out.keep f3)
        have H3 := Lib.hid h3
        have AU := Lib.hid (HW4.out.au.next k3 (vpS_lt HW4.out))
        have AU9 := Lib.hid (AP2.out.next k3 (fun k hk => by have := HW4.out.gr.size; omega))
        have G5 := Lib.hid (f3.cell (show w3.drew.cell? ⟨b, o + k, none⟩ = some (.int .i64 xx) from G3.out) (fun h => h))
        clear h3 k3 hda3 f3 HW4 CR
        go_wp2_with fail
        refine ⟨⟨⟨w5, G5.out⟩, rfl⟩, ?_⟩
        repeat (refine wpT_q (by simp only [List.getElem?_toArray, List.getElem?_cons_succ, List.getElem?_cons_zero] <;> rfl) (by rfl) (by rfl) ?_; go_big_quiet_step (fail); refine wpQuiet_nil ?_)
        refine wpT_e (by simp only [List.getElem?_toArray, List.getElem?_cons_succ, List.getElem?_cons_zero] <;> rfl) (by rfl) ?_
        go_wp2_with (refine wpList_storeW (vs := rwArr u' z' [] da2 dc2) HW5.out.bm (by rfl) 51 _ _ (by rfl) (by rfl) (by rfl) rfl Try.infoRefView (by rw [← Array.all_toList]; rfl) ?_)
        intro w6 f6 b6
        refine wpList_nil ?_
        have HN : Hid (MdSt w0 W.heap.size q m w6) := Lib.hid ⟨⟨v', u', ⟨⟨y', z', da2, dc2, HW5.out.storeM HCc.out f6 b6 H3.out AU.out (.inl rfl)⟩, HK.out.1, HK.out.2.1, HK.out.2.2.1⟩, HK.out.2.2.2.1, HK.out.2.2.2.2.1, HK.out.2.2.2.2.2, y', z', da2, dc2, HW5.out.storeM HCc.out f6 b6 H3.out AU.out (.inl rfl), AV9.out, AU9.out⟩⟩
        have G6 := Lib.hid (f6.cell G5.out (fun hk => by simp only at hk; omega))
        clear f6 b6 HW5 H3 AU
        refine ⟨⟨⟨w6, G6.out⟩, rfl⟩, ?_⟩
        clear x0 this
        refine wpT_nil ?_

        go_wp2_with fail
        go_roundw
        case rel => exact ⟨k + 1, by go_num, hlt, HN.out⟩
        case measure => simp [intOf]; omega
      · rw [decide_eq_false hlt]
        clear hlt hk
        have ST9 := Lib.hid ST.out
        clear ST
        go_upto_region 8 with fail
        go_wp2_with fail
        go_loopw [11] (fun iv wr => ∃ (k : Nat), iv = .int .i64 k ∧ k ≤ n2 ∧ MdSt w0 W.heap.size q m wr) (fun iv _ => n2 - (intOf iv).toNat)
        case atStart => exact ⟨0, rfl, Nat.zero_le _, ST9.out⟩
        case round =>
          clear ST9
          obtain ⟨k, rfl, hk, hst⟩ := hrel
          have ST := Lib.hid hst
          clear hst
          go_upto_region 9 with fail
          go_cut [53] from 46 to 53 (fun c wx => c = .bool (decide (k < n2)) ∧ wr = wx)
          case first =>
            by_cases h1 : (k : Int) < (lp.length : Int)
            · by_cases h2 : (k : Int) < 6
              · have hd := Lib.hid (show decide (k < n2) = true by have := HN2.out; simp; omega)
                go_wp2_with fail
                go_meet
                exact ⟨by rw [hd.out], rfl⟩
              · have hd := Lib.hid (show decide (k < n2) = false by have := HN2.out; simp; omega)
                go_wp2_with fail
                go_meet
                exact ⟨by rw [hd.out], rfl⟩
            · have hd := Lib.hid (show decide (k < n2) = false by have := HN2.out; simp; omega)
              go_wp2_with fail
              go_meet
              exact ⟨by rw [hd.out], rfl⟩
          case rest =>
            obtain ⟨rfl, rfl⟩ := hcut
            by_cases hlt : k < n2
            · rw [decide_eq_true hlt]
              have hkl : k < lp.length := by have := HN2.out; omega
              obtain ⟨v, u, hst, hv1, hv2, hv3, y, z, da', dc', hw, hap1, hap2⟩ := ST.out.st
              have AP1 := Lib.hid hap1
              have AP2 := Lib.hid hap2
              have hs9 := hw.gr.size
              clear hap1 hap2
              obtain ⟨b, o, rfl, hcW⟩ := HP.out.int k hkl
              have hbW : b < w0.heap.size := lt_of_cell hcW
              have hcc := hw.gr.cell hcW (fun h => h)
              obtain ⟨xv, hxv, hx0, hx7⟩ := and7_bound lp[k]
              generalize lp[k] = xx at *
              have G := Lib.hid hcc
              have HW := Lib.hid hw
              have HST := Lib.hid hst
              obtain ⟨hla, hlp, hpm⟩ := like_len2 hst.like hst.good
              clear hcW hcc hw hst ST
              obtain ⟨hk1, hk2⟩ := like_know HST.out.like HST.out.good (10 + xv) (ds := []) (by simp)
              have hk3 := vKnow_good HST.out.good (10 + xv) []
              have hk4 := vKnow_sane HST.out.good HST.out.sane (10 + xv) []
              have hk5 := vKnow_self v (10 + xv) []
              have CV := Lib.hid (fun w (h : VpW w0 q m (.pointer none) w v y u z [] [] da' dc') => viewKnow_any v y (10 + xv) (.pointer none) [] w h.va h.dr h.sep)
              unfold VEnd at CV
              have CR := Lib.hid (fun w (h : RwAt w u z [] da' dc') => refKnow_any u z (10 + xv) [] da' dc' w h hlp hpm (by simp))
              unfold RwEnd at CR
              rw [rKnow_nil] at CR
              generalize (vKnow v (10 + xv) []).2 = ds9 at *
              generalize (vKnow v (10 + xv) []).1 = v' at *
              generalize (rKnow u (10 + xv) []).1 = u' at *
              clear hk2
              have HK := Lib.hid (And.intro hk1 (And.intro hk3 (And.intro hk4 (And.intro (hk5.1.trans hv1) (And.intro (hk5.2.1.trans hv2) (hk5.2.2.trans hv3))))))
              clear hk1 hk3 hk4 hk5 hla hlp hpm hv1 hv2 hv3 HST
              go_upto_region 11 with fail
              have HW1 := Lib.hid (HW.out.keep ((Fr.refl _ _).drew))
              haveI : Nonempty (WC (fun w => w.cell? ⟨b, o + k, none⟩ = some (.int .i64 xx))) := ⟨⟨wr, G.out⟩⟩
              have x0 : ∀ z' : WC (fun w => w.cell? ⟨b, o + k, none⟩ = some (.int .i64 xx)), z'.val.cell? ⟨b, o + k, none⟩ = some (.int .i64 xx) := fun z' => z'.ok
              clear HW
              refine wp_region_lastO 8 [0, 7] [] [0, 1, 2, 3, 4, 5, 6, 7] (fun w' => ∃ z' : WC (fun w => w.cell? ⟨b, o + k, none⟩ = some (.int .i64 xx)), w' = z'.val) (by kernel_rfl) (by kernel_rfl) (fun c a w d v h => by cases d <;> exact h) (fun c a w d v h => by cases d <;> exact h) ⟨⟨wr.drew, G.out⟩, rfl⟩ ?_
              simp only [List.take]
              refine wpT_e (by simp only [List.getElem?_toArray, List.getElem?_cons_zero] <;> rfl) (by rfl) ?_
              refine wpList_load_mid (by rfl) 29 _ (by rfl) q 0 (by rfl) (Array.toList (v.arr y)) _ (blk_range HW1.out.bv) Try.underlying29 rfl Try.infoView ?_
              go_wp2_with fail
              refine ⟨⟨⟨wr.drew, G.out⟩, rfl⟩, ?_⟩
              try simp only [Act.put, List.setIfInBounds_toArray, List.set_cons_succ, List.set_cons_zero]
              repeat (refine wpT_q (by simp only [List.getElem?_toArray, List.getElem?_cons_succ, List.getElem?_cons_zero] <;> rfl) (by rfl) (by rfl) ?_; go_big_quiet_step (fail); refine wpQuiet_nil ?_)
              refine wpT_e (by simp only [List.getElem?_toArray, List.getElem?_cons_succ, List.getElem?_cons_zero] <;> rfl) (by rfl) ?_
              go_wp2_with fail
              refine (CV.out _ HW1.out).mono ?_
              rintro e w2 ⟨y', rfl, h2, d2, f2', k2⟩
              have f2 := gr_of_pnone f2'
              clear f2' d2
              have G2 := Lib.hid (f2.cell (show wr.drew.cell? ⟨b, o + k, none⟩ = some (.int .i64 xx) from G.out) (fun h => h))
              have HW2 := Lib.hid (HW1.out.keep f2)
              have H2 := Lib.hid h2
              have AV := Lib.hid (HW1.out.av.next k2 (vpS_lt HW1.out))
              have AV9 := Lib.hid (AP1.out.next k2 (fun k hk => by have := HW1.out.gr.size; omega))
              clear h2 f2 k2 HW1 CV
              go_wp2_with fail
              refine ⟨⟨⟨w2, G2.out⟩, rfl⟩, ?_⟩
              clear x0 this
              refine wpT_nil ?_
              simp only [lastQ, List.drop]
              go_wp2_with (refine wpList_storeW (vs := v'.arr y') HW2.out.bv (by rfl) 29 _ _ (by rfl) (by rfl) (by rfl) rfl Try.infoView (by rw [← Array.all_toList]; rfl) ?_)
              intro w3 f3 b3
              have HW3 := Lib.hid (HW2.out.storeV HCc.out f3 b3 H2.out AV.out VwSep.none)
              have G3 := Lib.hid (f3.cell G2.out (fun hk => by simp only at hk; omega))
              clear f3 b3 HW2 H2 AV
              go_upto_region 12 with fail
              haveI : Nonempty (WC (fun w => w.cell? ⟨b, o + k, none⟩ = some (.int .i64 xx))) := ⟨⟨w3, G3.out⟩⟩
              have x0 : ∀ z' : WC (fun w => w.cell? ⟨b, o + k, none⟩ = some (.int .i64 xx)), z'.val.cell? ⟨b, o + k, none⟩ = some (.int .i64 xx) := fun z' => z'.ok
              have HW4 := Lib.hid (HW3.out.keep ((Fr.refl _ _).drew))
              clear HW3
              refine wp_region_lastO 8 [0, 7] [] [0, 1, 2, 3, 4, 5, 6, 7] (fun w' => ∃ z' : WC (fun w => w.cell? ⟨b, o + k, none⟩ = some (.int .i64 xx)), w' = z'.val) (by kernel_rfl) (by kernel_rfl) (fun c a w d v h => by cases d <;> exact h) (fun c a w d v h => by cases d <;> exact h) ⟨⟨w3.drew, G3.out⟩, rfl⟩ ?_
              simp only [List.take]
              refine wpT_e (by simp only [List.getElem?_toArray, List.getElem?_cons_zero] <;> rfl) (by rfl) ?_
              refine wpList_load_mid (by rfl) 51 _ (by rfl) m 0 (by rfl) (Array.toList (rwArr u z [] da' dc')) _ (blk_range HW4.out.bm) Try.underlying51 rfl Try.infoRefView ?_
              go_wp2_with fail
              refine ⟨⟨⟨w3.drew, G3.out⟩, rfl⟩, ?_⟩
              try simp only [Act.put, List.setIfInBounds_toArray, List.set_cons_succ, List.set_cons_zero]
              repeat (refine wpT_q (by simp only [List.getElem?_toArray, List.getElem?_cons_succ, List.getElem?_cons_zero] <;> rfl) (by rfl) (by rfl) ?_; go_big_quiet_step (fail); refine wpQuiet_nil ?_)
              refine wpT_e (by simp only [List.getElem?_toArray, List.getElem?_cons_succ, List.getElem?_cons_zero] <;> rfl) (by rfl) ?_
              go_wp2_with fail
              refine (CR.out _ HW4.out.ra).mono ?_
              rintro e w5 ⟨z', da2, dc2, rfl, h3, k3, hda3, f3⟩
              have HW5 := Lib.hid (HW4.out.keep f3)
              have H3 := Lib.hid h3
              have AU := Lib.hid (HW4.out.au.next k3 (vpS_lt HW4.out))
              have AU9 := Lib.hid (AP2.out.next k3 (fun k hk => by have := HW4.out.gr.size; omega))
              have G5 := Lib.hid (f3.cell (show w3.drew.cell? ⟨b, o + k, none⟩ = some (.int .i64 xx) from G3.out) (fun h => h))
              clear h3 k3 hda3 f3 HW4 CR
              go_wp2_with fail
              refine ⟨⟨⟨w5, G5.out⟩, rfl⟩, ?_⟩
              clear x0 this
              refine wpT_nil ?_
              simp only [lastQ, List.drop]
              go_wp2_with (refine wpList_storeW (vs := rwArr u' z' [] da2 dc2) HW5.out.bm (by rfl) 51 _ _ (by rfl) (by rfl) (by rfl) rfl Try.infoRefView (by rw [← Array.all_toList]; rfl) ?_)
              intro w6 f6 b6
              have HN : Hid (MdSt w0 W.heap.size q m w6) := Lib.hid ⟨⟨v', u', ⟨⟨y', z', da2, dc2, HW5.out.storeM HCc.out f6 b6 H3.out AU.out (.inl rfl)⟩, HK.out.1, HK.out.2.1, HK.out.2.2.1⟩, HK.out.2.2.2.1, HK.out.2.2.2.2.1, HK.out.2.2.2.2.2, y', z', da2, dc2, HW5.out.storeM HCc.out f6 b6 H3.out AU.out (.inl rfl), AV9.out, AU9.out⟩⟩
              clear f6 b6 HW5 H3 AU

              go_wp2_with fail
              go_roundw
              case rel => exact ⟨k + 1, by go_num, hlt, HN.out⟩
              case measure => simp [intOf]; omega
            · rw [decide_eq_false hlt]
              clear hlt hk
              obtain ⟨v, u, hst, hv1, hv2, hv3, y, z, da', dc', hw, hap1, hap2⟩ := ST.out.st
              have AP1 := Lib.hid hap1
              have AP2 := Lib.hid hap2
              have hs9 := hw.gr.size
              clear hap1 hap2
              have HW := Lib.hid hw
              have HST := Lib.hid (And.intro hst.like (And.intro hst.good (And.intro hst.sane (And.intro hv1 (And.intro hv2 hv3)))))
              have q1 := hw.ra.act.le
              have q2 := hw.ra.act.max
              have q3 := hw.ra.pas.le
              have q4 := hw.ra.pas.max
              have q5 := hw.va.act.le
              have q6 := hw.va.act.max
              have q7 := hw.va.pas.le
              have q8 := hw.va.pas.max
              have HDr := Lib.hid (HD.out.keep hw.gr (fun _ _ h => h))
              clear hst hw ST HA HP hv1 hv2 hv3 HD
              go_upto_region 13 with fail
              have yc := (Bx.of_block HW.out.bm) 5 _ rfl
              have zc := Lib.frozen_of_heap HW.out.bm 5
              go_upto_region 14 with fail
              obtain ⟨w30, hw30⟩ : ∃ w30, w30 = World.setCell wr ⟨m, 5, none⟩ (.slice da ds.length dc) := ⟨_, rfl⟩
              rw [← hw30]
              have f30 : Fr (fun k => k = m) wr w30 := by rw [hw30]; exact (Fr.refl (fun k => k = m) _).setCell (p := ⟨m, 5, none⟩) (.inl rfl) _
              have b30 : w30.heap[m]? = some (.cells (rwArr u z ds da dc) 51 (0, 0)) := by rw [hw30]; exact blk_set1 HW.out.bm 5 _
              clear hw30 yc zc
              have BV := Lib.hid (blk_keep f30 HW.out.bv (by omega))
              have BM := Lib.hid b30
              have VA := Lib.hid (HW.out.va.keepA f30 (HW.out.av.sub m_S))
              have RA : Hid (RwAt w30 u z ds da dc) := Lib.hid ⟨HW.out.ra.act.keepNE f30 (HW.out.au.sub m_S).1, HW.out.ra.pas.keepNE f30 (HW.out.au.sub m_S).2, dr_keep HDr.out f30 HW.out.bm (noU32_arr _ _ _ _ _)⟩
              have FF := Lib.hid (Gr.trans F0.out (fr_new HW.out.gr f30 HCc.out.m0))
              have A30 := Lib.hid (blk_keep f30 (blk_keep HW.out.gr A0.out (fun h => h)) (by omega))
              have B30 := Lib.hid (blk_keep f30 (blk_keep HW.out.gr B0.out (fun h => h)) (by omega))
              have q9 := HDr.out.le
              have q10 := HDr.out.max
              have s30 := f30.size
              clear HW HDr A0 B0 F0 f30 b30
              haveI : Nonempty (WC (fun w => Bx w m (Array.toList (rwArr u z ds da dc)))) := ⟨⟨w30, Bx.of_block BM.out⟩⟩
              have x0 : ∀ z' : WC (fun w => Bx w m (Array.toList (rwArr u z ds da dc))), z'.val.cell? ⟨m, 0, none⟩ = some (.int .i64 u.self) := fun z' => z'.ok 0 _ rfl
              have x1 : ∀ z' : WC (fun w => Bx w m (Array.toList (rwArr u z ds da dc))), z'.val.cell? ⟨m, 1, none⟩ = some (.slice z.aa u.act.length z.ac) := fun z' => z'.ok 1 _ rfl
              have x2 : ∀ z' : WC (fun w => Bx w m (Array.toList (rwArr u z ds da dc))), z'.val.cell? ⟨m, 2, none⟩ = some (.slice z.pa u.pas.length z.pc) := fun z' => z'.ok 2 _ rfl
              have x3 : ∀ z' : WC (fun w => Bx w m (Array.toList (rwArr u z ds da dc))), z'.val.cell? ⟨m, 3, none⟩ = some (.int .i64 u.am) := fun z' => z'.ok 3 _ rfl
              have x4 : ∀ z' : WC (fun w => Bx w m (Array.toList (rwArr u z ds da dc))), z'.val.cell? ⟨m, 4, none⟩ = some (.int .i64 u.pm) := fun z' => z'.ok 4 _ rfl
              have x5 : ∀ z' : WC (fun w => Bx w m (Array.toList (rwArr u z ds da dc))), z'.val.cell? ⟨m, 5, none⟩ = some (.slice da ds.length dc) := fun z' => z'.ok 5 _ rfl
              refine wp_region_lastO 3 [0, 2] [] [0, 1, 2] (fun w' => ∃ z' : WC (fun w => Bx w m (Array.toList (rwArr u z ds da dc))), w' = z'.val) (by kernel_rfl) (by kernel_rfl) (fun c a w d v h => by cases d <;> exact h) (fun c a w d v h => by cases d <;> exact h) ⟨⟨w30.drew, Bx.of_block BM.out⟩, rfl⟩ ?_
              simp only [List.take]
              have BV1 := Lib.hid (show w30.drew.heap[q]? = some (.cells (v.arr y) 29 (0, 0)) from BV.out)
              refine wpT_e (by simp only [List.getElem?_toArray, List.getElem?_cons_zero] <;> rfl) (by rfl) ?_
              refine wpList_load_mid (by rfl) 29 _ (by rfl) q 0 (by rfl) (Array.toList (v.arr y)) _ (blk_range BV1.out) Try.underlying29 rfl Try.infoView ?_
              go_wp2_with fail
              refine ⟨⟨⟨w30.drew, Bx.of_block BM.out⟩, rfl⟩, ?_⟩
              try simp only [Act.put, List.setIfInBounds_toArray, List.set_cons_succ, List.set_cons_zero]
              repeat (refine wpT_q (by simp only [List.getElem?_toArray, List.getElem?_cons_succ, List.getElem?_cons_zero] <;> rfl) (by rfl) (by rfl) ?_; go_big_quiet_step (fail); refine wpQuiet_nil ?_)
              refine wpT_e (by simp only [List.getElem?_toArray, List.getElem?_cons_succ, List.getElem?_cons_zero] <;> rfl) (by rfl) ?_
              have A31 := Lib.hid (show w30.drew.heap[W.heap.size]? = some (.cells viewZ 29 (0, 0)) from A30.out)
              go_wp2_with (refine wpList_storeW (vs := v.arr y) A31.out (by rfl) 29 _ _ (by rfl) (by rfl) (by rfl) rfl Try.infoView (by rw [← Array.all_toList]; rfl) ?_)
              intro w31 f31' b31
              refine wpList_nil ?_
              have f31 : Fr (fun k => k = W.heap.size) w30 w31 := Fr.trans ((Fr.refl _ _).drew) f31' (fun _ h => .inl h)
              have A32 := Lib.hid b31
              have B32 := Lib.hid (blk_keep f31 B30.out (by omega))
              have M32 := Lib.hid (blk_keep f31 BM.out (by omega))
              have VA2 := Lib.hid (VA.out.keepA f31 (AP1.out.sub (fun _ h => .inl h)))
              have RA2 := Lib.hid (RA.out.store f31 AP2.out (.inl rfl) A30.out (noU32_vw ⟨0, [], 0, [], 0⟩ vwNone))
              have FF2 := Lib.hid (fr_new FF.out f31 (Nat.le_refl _))
              clear f31 f31' b31 A30 A31 B30 BM BV BV1 VA RA FF
              refine ⟨⟨⟨w31, Bx.of_block M32.out⟩, rfl⟩, ?_⟩
              clear x0 x1 x2 x3 x4 x5 this
              refine wpT_nil ?_
              simp only [lastQ, List.drop]
              go_wp2_with (refine wpList_storeW (vs := rwArr u z ds da dc) B32.out (by rfl) 51 _ _ (by rfl) (by rfl) (by rfl) rfl Try.infoRefView (by rw [← Array.all_toList]; rfl) ?_)
              intro w33 f33 b33
              have A34 := Lib.hid (blk_keep f33 A32.out (by omega))
              have L7 : Hid ((loadVar 29 ⟨W.heap.size, 0, none⟩).run Try.prog w33 = .ok (.agg (v.arr y)) w33) := Lib.hid (run_loadVar_mid w33 W.heap.size 0 29 (Array.toList (v.arr y)) _ (blk_range A34.out) Try.underlying29 rfl Try.infoView)
              have A7 : Hid ((asAddr (.pointer (some ⟨W.heap.size, 0, none⟩))).run Try.prog w33 = .ok ⟨W.heap.size, 0, none⟩ w33) := Lib.hid (by simp [go_sem])
              have L8 : Hid ((loadVar 51 ⟨W.heap.size + 1, 0, none⟩).run Try.prog w33 = .ok (.agg (rwArr u z ds da dc)) w33) := Lib.hid (run_loadVar_mid w33 (W.heap.size + 1) 0 51 (Array.toList (rwArr u z ds da dc)) _ (blk_range b33) Try.underlying51 rfl Try.infoRefView)
              have A8 : Hid ((asAddr (.pointer (some ⟨W.heap.size + 1, 0, none⟩))).run Try.prog w33 = .ok ⟨W.heap.size + 1, 0, none⟩ w33) := Lib.hid (by simp [go_sem])
              have VA3 := Lib.hid (VA2.out.keepA f33 (AP1.out.sub (fun _ h => .inr h)))
              have RA3 := Lib.hid (RA2.out.store f33 AP2.out (.inr rfl) B32.out noU32_z)
              have FF3 := Lib.hid (fr_new FF2.out f33 (show W.heap.size ≤ W.heap.size + 1 by omega))
              clear f33 b33 A32 B32 M32 VA2 RA2 FF2
              go_wp2_with fail
              refine bodyPost_ret (v := .tuple #[.agg (v.arr y), .agg (rwArr u z ds da dc)]) (by simp [results, Try.results41, Sem.run_bind, Result.andThen_ok, L7.out, A7.out, L8.out, A8.out]) rfl ?_
              exact ⟨v, y, u, z, rfl, VA3.out, RA3.out, HST.out.1, HST.out.2.1, HST.out.2.2.1, HST.out.2.2.2.1, HST.out.2.2.2.2.1, HST.out.2.2.2.2.2, FF3.out⟩
end Go.Proofs.Ytdpnkikaciigoaa

/-
  The first lines of layer 12's laws.
-/
namespace Go.Proofs.Ytdpnkikaciigoaa
open Go.RowKit Go.Proofs

set_option maxHeartbeats 4000000 in
set_option maxRecDepth 100000 in
theorem speaks12_any (W : World) : Calls Try.prog 40 #[] W fun e w' => e = .returned (.bool true) ∧ Gr W w' := by
  obtain ⟨iz, hz1, hz2, hzs⟩ := info_pair Try.zeroView
  obtain ⟨va, hva⟩ : ∃ v : Vw, v = ⟨1, [2], 2, [], 2⟩ := ⟨_, rfl⟩
  obtain ⟨vb, hvb⟩ : ∃ v : Vw, v = ⟨1, [2], 2, [3], 2⟩ := ⟨_, rfl⟩
  have J1 : vJoin (vwNew 1 2 2) 2 = va := by rw [hva]; rfl
  have K1 : (vKnow va 3 []) = (vb, []) := by rw [hva, hvb]; rfl
  have M1 : mixS vb 5 5 [] = ([1, 2, 3], []) := by rw [hvb]; rfl
  have A1 : oneV [] vb.act = (2, true, []) := by rw [hvb]; rfl
  have M2 : mixS vb 0 0 [] = ([1], []) := by rw [hvb]; rfl
  have A2 : ¬ vb.act = [] := by rw [hvb]; simp
  have C1 := Lib.hid (viewNew_any 1 2 2 W)
  have CJ := Lib.hid (fun w => viewJoin_any (vwNew 1 2 2) vwNone 2 w (vwNone_at w 1 2 2))
  unfold VEnd0 at CJ
  rw [J1] at CJ
  have CK := Lib.hid (fun y w (h : VwAt w va y) => viewKnow_any va y 3 (.pointer none) [] w h (DrawV.nil w) VwSep.none)
  unfold VEnd at CK
  rw [K1] at CK
  have CM := Lib.hid (fun y w (h : VwAt w vb y) => mixSample_any vb y 5 5 (.pointer none) [] w h (DrawV.nil w) VwSep.none (by omega) (by omega))
  unfold RowP at CM
  rw [M1] at CM
  have CS := Lib.hid (fun y w (h : VwAt w vb y) => show Calls Try.prog 44 #[vb.val y, .agg #[.int .i64 0, .int .i64 0], .int .i64 3, .pointer none] w (OneOut (.pointer none) 2 ⟨7, 1, 3, false, [1]⟩ [] w) from (mixStart_any vb y 0 0 3 (.pointer none) [] w h (DrawV.nil w) VwSep.none (by omega) (by omega)).mono (by
    intro e w' he
    unfold StartEnd at he
    rw [if_neg A2, A1] at he
    simp only at he
    rw [M2, hvb] at he
    exact he))
  unfold OneOut at CS
  simp only at CM CS CK
  generalize vJoinOk (vwNew 1 2 2) 2 = k1 at *
  clear J1 K1 M1 A1 M2 A2 hva hvb
  go_enter Try.func40, Try.ntmps40
  go_wp2_with fail
  refine C1.out.mono ?_
  rintro e w1 ⟨rfl, f1⟩
  have F1 := Lib.hid f1
  clear f1 C1
  go_wp2_with fail
  refine (CJ.out w1).mono ?_
  rintro e w2 ⟨y, rfl, h2, f2, -⟩
  have F2 := Lib.hid (Gr.trans F1.out f2)
  have H2 := Lib.hid h2
  clear f2 h2 F1 CJ
  go_wp2_with (refine wpList_fresh (vs := va.arr y) hz1 hz2 Try.infoView (by rfl) (by rw [← Array.all_toList]; rfl) (by rfl) (by rfl) ?_)
  intro w3 f3 b3 l3
  obtain ⟨q, hq⟩ : ∃ q, q = w2.heap.size := ⟨_, rfl⟩
  rw [← hq] at b3 l3 ⊢
  have hWq : W.heap.size ≤ q := by rw [hq]; exact F2.out.size
  have V3 : Hid (VarV W q w3 va y) := Lib.hid ⟨b3, H2.out.gr f3, VwApart.new (S := fun k => k = q) H2.out (fun k h => by omega), Gr.trans F2.out f3⟩
  clear f3 b3 l3 hq F2 H2
  go_upto_region 2 with fail
  refine wp_region_lit ?_
  refine wpList_load_mid (by rfl) 29 _ (by rfl) q 0 (by rfl) (Array.toList (va.arr y)) _ (blk_range V3.out.blk) Try.underlying29 rfl Try.infoView ?_
  go_wp2_with fail
  refine (CK.out y w3 V3.out.at_).mono ?_
  rintro e w4 ⟨z, rfl, h4, -, f4, k4⟩
  replace f4 := gr_of_pnone f4
  have V4 := Lib.hid (V3.out.keep f4)
  have H4 := Lib.hid h4
  have AP4 := Lib.hid (V3.out.apart.next k4 (fun k h => by have := V3.out.lt; omega))
  clear f4 h4 k4 V3 CK
  go_wp2_with (refine wpList_storeW (vs := vb.arr z) V4.out.blk (by rfl) 29 _ _ (by rfl) (by rfl) (by rfl) rfl Try.infoView (by rw [← Array.all_toList]; rfl) ?_)
  intro w5 f5 b5
  have V5 : Hid (VarV W q w5 vb z) := Lib.hid ⟨b5, H4.out.keepA f5 AP4.out, AP4.out, fr_new V4.out.gr f5 hWq⟩
  clear f5 b5 V4 H4 AP4
  go_upto_region 3 with fail
  refine wp_region_lit ?_
  refine wpList_load_mid (by rfl) 29 _ (by rfl) q 0 (by rfl) (Array.toList (vb.arr z)) _ (blk_range V5.out.blk) Try.underlying29 rfl Try.infoView ?_
  go_wp2_with fail
  refine (CM.out z w5 V5.out.at_).mono ?_
  rintro e w6 ⟨aL, cL, rfl, hL, -, -, f6⟩
  replace f6 := gr_of_pnone f6
  have V6 := Lib.hid (V5.out.keep f6)
  have HL := Lib.hid hL
  clear f6 hL V5 CM
  go_upto_region 4 with fail
  refine wp_region_lit ?_
  refine wpList_load_mid (by rfl) 29 _ (by rfl) q 0 (by rfl) (Array.toList (vb.arr z)) _ (blk_range V6.out.blk) Try.underlying29 rfl Try.infoView ?_
  go_wp2_with fail
  refine (CS.out z w6 V6.out.at_).mono ?_
  rintro e w7 ⟨g, aM, cM, rfl, hg, bg, -, -, -, f7⟩
  replace f7 := gr_of_pnone f7
  have F7 := Lib.hid (Gr.trans V6.out.gr f7)
  have HL7 := Lib.hid (HL.out.keep f7 (fun _ _ h => h))
  have BG := Lib.hid bg
  clear f7 hg bg V6 CS HL
  go_wp2_with fail
  obtain ⟨w8, hw8⟩ : ∃ w8, w8 = w7.alloc (.cells #[.int .i64 1, .int .i64 2, .int .i64 3] 3) := ⟨_, rfl⟩
  have g8 : Gr w7 w8 := by rw [hw8]; exact (Fr.refl _ _).alloc _
  have hk2 : SlA w8 (some ⟨w7.heap.size, 0, none⟩) 3 3 (ints [1, 2, 3]) :=
    sla_blk (c := #[.int .i64 1, .int .i64 2, .int .i64 3]) (by rw [hw8, heap_alloc_if, if_pos rfl]) (fun j x h => by
      match j, h with
      | 0, h => simpa using h
      | 1, h => simpa using h
      | 2, h => simpa using h) (Nat.le_refl _) (by decide)
  rw [← hw8]
  refine (refSame_any aL cL [1, 2, 3] (some ⟨w7.heap.size, 0, none⟩) 3 [1, 2, 3] _ (HL7.out.keep g8 (fun _ _ h => h)) hk2).mono ?_
  rintro e w9 ⟨rfl, q9, hq9⟩
  rw [(same_iff [1, 2, 3] [1, 2, 3]).2 rfl]
  have g9 : Gr w7 w9 := by rw [hq9]; exact g8.drewN q9
  have F9 := Lib.hid (Gr.trans F7.out g9)
  have B9 := Lib.hid (blk_keep g9 BG.out (fun h => h))
  clear g8 hk2 hw8 hq9 g9 F7 HL7 BG
  have x0 := (Bx.of_block B9.out) 0 _ rfl
  have x1 := (Bx.of_block B9.out) 1 _ rfl
  have x3 := (Bx.of_block B9.out) 3 _ rfl
  go_wp2_with fail
  go_ret
  exact ⟨rfl, F9.out⟩

theorem Try.zeroSizes : (Try.prog.info? 80).map (fun i => (i.zero, i.size)) = some (some (.agg #[.int .i64 0, .int .i64 0]), 2) := by kernel_rfl
theorem Try.infoSizes : (Try.prog.info? 80).map (·.size) = some 2 := by kernel_rfl
theorem exec_bldSizes (ρ : Operand → Value) (w : World) (dst : Option Tmp) (ty : TypeId) (pos : String) (after : Array Edge) {x0 x1 : Operand} {i0 i1 : Int} (h0 : ρ x0 = .int .i64 i0) (h1 : ρ x1 = .int .i64 i1) :
    (execOp ρ ⟨dst, .build 80 #[(0, x0), (1, x1)], ty, pos, after, none⟩).run Try.prog w = .ok (.value (.agg #[.int .i64 i0, .int .i64 i1])) w := by simp [go_sem, h0, h1]
theorem wpList_bldSizes {ops : Array Oper} {rest : List Oper} {dst : Option Tmp} {ty : TypeId} {pos : String} {after : Array Edge} {A : Act} {w : World} {Q : Exit → Act → World → Prop} {x0 x1 : Operand} {i0 i1 : Int} (h0 : A.eval x0 = .int .i64 i0) (h1 : A.eval x1 = .int .i64 i1)
    (h : wpList Try.prog ops Q rest (A.put dst (.agg #[.int .i64 i0, .int .i64 i1])) w) : wpList Try.prog ops Q (⟨dst, .build 80 #[(0, x0), (1, x1)], ty, pos, after, none⟩ :: rest) A w := by
  refine wpList_plain rfl fun K hK => ?_
  unfold Oper.wp
  rw [exec_bldSizes A.eval w dst ty pos after h0 h1]
  exact hK _ _ h
theorem oneV_out {ds l : List Int} (hl : l ≠ []) (h : l.length < 2 ∨ ds = [] ∨ 2147483647 < l.length) : oneV ds l = (l.getD 0 0, true, ds) := by
  unfold oneV
  rw [if_neg hl]
  have : bel ds (l.length : Int) = (0, ds) := by
    unfold bel
    split
    · rcases h with h | h | h
      · omega
      · subst h; rfl
      · omega
    · rfl
  unfold belN
  rw [this]
  rfl
theorem oneV_in {c : Int} {r l : List Int} (h : 2 ≤ l.length) (h2 : l.length ≤ 64) : oneV (c :: r) l = (l.getD (c % (l.length : Int)).toNat 0, true, r) := by
  unfold oneV
  have hl : l ≠ [] := fun e => by rw [e] at h; simp at h
  rw [if_neg hl]
  have : bel (c :: r) (l.length : Int) = (c % (l.length : Int), r) := by
    unfold bel
    rw [if_pos (by omega)]
  unfold belN
  rw [this]
theorem VwAt.keepLt {B : Nat} {w w' : World} {v : Vw} {y : VwP} (h : VwAt w v y) (f : Fr (fun k => B ≤ k) w w') (hB : w.heap.size ≤ B) : VwAt w' v y :=
  ⟨h.act.keepNE f (fun hl q hq hk => by have := h.act.ltNE hl q hq; omega), h.pas.keepNE f (fun hl q hq hk => by have := h.pas.ltNE hl q hq; omega), h.good⟩
theorem VwSep.new {p : Value} {w : World} {v : Vw} {y : VwP} (h : VwAt w v y) (hp : ∀ k, pblk p k → w.heap.size ≤ k) : VwSep p v y :=
  ⟨fun hl q hq hk => by have := h.act.ltNE hl q hq; have := hp _ hk; omega, fun hl q hq hk => by have := h.pas.ltNE hl q hq; have := hp _ hk; omega⟩
theorem FrB.gr {B : Nat} {a b c : World} (h : Fr (fun k => B ≤ k) a b) (f : Gr b c) : Fr (fun k => B ≤ k) a c := Fr.trans h f (fun _ h => h.elim)
theorem FrB.p {B : Nat} {p : Value} {a b c : World} (h : Fr (fun k => B ≤ k) a b) (f : Fr (pblk p) b c) (hp : ∀ k, pblk p k → B ≤ k) : Fr (fun k => B ≤ k) a c := Fr.trans h f (fun k hk => .inl (hp k hk))
theorem FrB.b {B q : Nat} {a b c : World} (h : Fr (fun k => B ≤ k) a b) (f : Fr (fun k => k = q) b c) (hp : B ≤ q) : Fr (fun k => B ≤ k) a c := Fr.trans h f (fun k hk => .inl (by omega))
end Go.Proofs.Ytdpnkikaciigoaa
