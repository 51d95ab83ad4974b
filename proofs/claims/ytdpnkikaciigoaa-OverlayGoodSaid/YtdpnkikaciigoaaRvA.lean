/-
  The document's view: words, and its functions (printed by gen_rv.py).
-/
import Derived.Test.YtdpnkikaciigoaaRvSpec
import Derived.Test.YtdpnkikaciigoaaViewAp
import Derived.Test.YtdpnkikaciigoaaRegionZ
namespace Go.Proofs.Ytdpnkikaciigoaa
open Go.RowKit Go.Proofs

abbrev rwArr (u : Vw) (y : VwP) (ds : List Int) (da : Option Addr) (dc : Nat) : Array Value := #[.int .i64 u.self, .slice y.aa u.act.length y.ac, .slice y.pa u.pas.length y.pc, .int .i64 u.am, .int .i64 u.pm, .slice da ds.length dc]
abbrev rwZ : Array Value := #[.int .i64 0, .slice none 0 0, .slice none 0 0, .int .i64 0, .int .i64 0, .slice none 0 0]
theorem Try.zeroRefView : (Try.prog.info? 51).map (fun i => (i.zero, i.size)) = some (some (.agg rwZ), 6) := by kernel_rfl
theorem Try.infoRefView : (Try.prog.info? 51).map (·.size) = some 6 := by kernel_rfl
theorem Try.infoints : (Try.prog.info? 22).map (·.size) = some 1 := by kernel_rfl
theorem Try.infou32s : (Try.prog.info? 49).map (·.size) = some 1 := by kernel_rfl
structure RwAt (w : World) (u : Vw) (y : VwP) (ds : List Int) (da : Option Addr) (dc : Nat) : Prop where
  act : SlA w y.aa u.act.length y.ac (ints u.act)
  pas : SlA w y.pa u.pas.length y.pc (ints u.pas)
  dr : SlA w da ds.length dc (ds.map (Value.int .u32))
theorem RwAt.gr {w w' : World} {u : Vw} {y : VwP} {ds : List Int} {da : Option Addr} {dc : Nat} (h : RwAt w u y ds da dc) (f : Gr w w') : RwAt w' u y ds da dc :=
  ⟨h.act.keep f (fun _ _ h => h), h.pas.keep f (fun _ _ h => h), h.dr.keep f (fun _ _ h => h)⟩
def NoU32 (cs : Array Value) : Prop := ∀ (i : Nat) (x : Int), cs[i]? ≠ some (.int .u32 x)
theorem noU32_arr (u : Vw) (y : VwP) (ds : List Int) (da : Option Addr) (dc : Nat) : NoU32 (rwArr u y ds da dc) := by
  intro i x h
  match i, h with
  | 0, h => simp at h
  | 1, h => simp at h
  | 2, h => simp at h
  | 3, h => simp at h
  | 4, h => simp at h
  | 5, h => simp at h
  | i + 6, h => simp at h
theorem noU32_z : NoU32 rwZ := by
  intro i x h
  match i, h with
  | 0, h => simp at h
  | 1, h => simp at h
  | 2, h => simp at h
  | 3, h => simp at h
  | 4, h => simp at h
  | 5, h => simp at h
  | i + 6, h => simp at h
theorem dr_keep {w w' : World} {b : Nat} {n dc : Nat} {da : Option Addr} {ds : List Int} {cs : Array Value} {T : TypeId} {fz : Nat × Nat} (h : SlA w da n dc (ds.map (Value.int .u32))) (f : Fr (fun k => k = b) w w') (hb : w.heap[b]? = some (.cells cs T fz)) (hcs : NoU32 cs) : SlA w' da n dc (ds.map (Value.int .u32)) :=
  ⟨h.le, h.max, fun j u hj => by
    obtain ⟨b', o, e, hc⟩ := h.cell j u hj
    refine ⟨b', o, e, f.cell hc ?_⟩
    intro e2
    simp only at e2
    subst e2
    obtain ⟨x, _, rfl⟩ := List.mem_map.1 (List.mem_of_getElem? hj)
    rw [Lib.cell_of_heap hb] at hc
    exact hcs _ _ hc⟩
/-- a store into a variable that holds such a view -/
theorem RwAt.store {w w' : World} {u : Vw} {y : VwP} {ds : List Int} {da : Option Addr} {dc b : Nat} {cs : Array Value} {T : TypeId} {fz : Nat × Nat} (h : RwAt w u y ds da dc) (f : Fr (fun k => k = b) w w') {S : Nat → Prop} (ap : VwApart S u y) (hb : S b) (hw : w.heap[b]? = some (.cells cs T fz)) (hcs : NoU32 cs) : RwAt w' u y ds da dc :=
  ⟨h.act.keepNE f (fun hl q hq he => ap.1 hl q hq (he ▸ hb)), h.pas.keepNE f (fun hl q hq he => ap.2 hl q hq (he ▸ hb)), dr_keep h.dr f hw hcs⟩
theorem RwAt.new {S : Nat → Prop} {w : World} {u : Vw} {y : VwP} {ds : List Int} {da : Option Addr} {dc : Nat} (h : RwAt w u y ds da dc) (hS : ∀ k, S k → w.heap.size ≤ k) : VwApart S u y :=
  ⟨fun hl q hq hs => by have := h.act.ltNE hl q hq; have := hS _ hs; omega, fun hl q hq hs => by have := h.pas.ltNE hl q hq; have := hS _ hs; omega⟩
/-- the numbers' row lies in the block in which it lay -/
def DaOf (da da' : Option Addr) : Prop := ∀ q', da' = some q' → ∃ q, da = some q ∧ q.block = q'.block
theorem DaOf.refl (da : Option Addr) : DaOf da da := fun q h => ⟨q, h, rfl⟩
theorem DaOf.trans {a b c : Option Addr} (h : DaOf a b) (k : DaOf b c) : DaOf a c := fun q hq => by
  obtain ⟨q1, h1, h2⟩ := k q hq
  obtain ⟨q2, h3, h4⟩ := h q1 h1
  exact ⟨q2, h3, h4.trans h2⟩
def RwEnd (u : Vw) (y : VwP) (da : Option Addr) (u' : Vw) (ds' : List Int) (r : Array Value → Value) (w : World) (e : Ending) (w' : World) : Prop :=
  ∃ y' da' dc', e = .returned (r (rwArr u' y' ds' da' dc')) ∧ RwAt w' u' y' ds' da' dc' ∧ VwFrom w u y u' y' ∧ DaOf da da' ∧ Gr w w'
def RowNew (l : List Int) (w : World) (e : Ending) (w' : World) : Prop := ∃ a cap, e = .returned (.slice a l.length cap) ∧ SlA w' a l.length cap (ints l) ∧ (∀ q, a = some q → w.heap.size ≤ q.block) ∧ Gr w w'
theorem sla_none {w : World} {n cap : Nat} {l : List Int} (h : SlA w none n cap (ints l)) : l = [] := by
  cases l with
  | nil => rfl
  | cons x r => obtain ⟨b, o, e, _⟩ := h.cell 0 _ rfl; cases e

set_option maxHeartbeats 2000000 in
set_option maxRecDepth 100000 in
theorem refSortedN_any (b o cap : Nat) (l t : List Int) (w : World) (h : SlA w (some ⟨b, o, none⟩) l.length cap (ints l)) (hp : t.Perm l) (ht : t.Pairwise (· ≤ ·)) (hn : l.length ≤ 4294967296) :
    Calls Try.prog 38 #[.slice (some ⟨b, o, none⟩) l.length cap] w (RowNew t w) := by
  obtain ⟨i0, hi, hz0, hz1, hz2⟩ := info_parts Try.infoint
  have hle := h.le
  have hmx := h.max
  have H := Lib.hid h; clear h
  have HP := Lib.hid hp; clear hp
  have HT := Lib.hid ht; clear ht
  go_enter Try.func38, Try.ntmps38
  go_wp2_with (at_builtin; refine wpList_append_own _ rfl _ _ 22 rfl w.heap.size 3 i0 (.int .i64 0) 1 8 Try.underlying22 hi hz0 hz1 hz2 rfl (by decide) _ _ _ rfl (own_empty w _ _ (Nat.le_refl _)) ⟨b, o, none⟩ l.length cap (ints l) rfl (by simp) ?c1 (one_map _ l (fun _ => rfl)) (by unfold maxLen; omega) (by omega) (by simp) ?_)
  case c1 =>
    intro j u hj
    obtain ⟨b', o', e, hc⟩ := H.out.cell j u hj
    cases e
    rw [Addr.add_lit]
    rw [World.cell?_alloc_old _ _ _ (Nat.ne_of_lt (lt_of_cell hc))]; exact hc
  intro v1 w1 hown1 hgrow1 hiff
  have hfr1 : Gr w w1 := ((Fr.refl (fun _ => False) w).alloc _).grown hgrow1 (fun q hq => .inr (by simp [Value.ownBlock] at hq; omega))
  obtain ⟨hl, ⟨h', _⟩ | ⟨g, cap1, cur, rfl, hB, hg, hnc, hcm, hcs, htk⟩⟩ := hown1
  · exact absurd h' hiff
  have hrow : RowIs w1 g cap1 l := by
    refine ⟨cur, hg, by omega, fun j y hj => ?_⟩
    have hj' := (List.getElem?_eq_some_iff.1 hj).1
    have h1 : (cur.toList.take (l.length * 1))[j]? = (ints l)[j]? := by rw [htk]
    rw [List.getElem?_take, if_pos (by omega)] at h1
    simp only [ints, List.getElem?_map, hj, Option.map_some] at h1
    simpa using h1
  have hge := Lib.hid hB
  have F1 := Lib.hid hfr1
  clear hl hg hcs htk hiff hgrow1 hB hfr1
  go_wp2_with fail
  go_loopw [4, 5] (fun iv _ wr => ∃ (i : Nat) (c : List Int), iv = .int .i64 i ∧ 1 ≤ i ∧ (i ≤ l.length ∨ i = 1) ∧ c.length = l.length ∧ c.Perm l ∧ RiseTo c i ∧ RowIs wr g cap1 c ∧ Fr (fun k => k = g) w1 wr) (fun iv _ _ => l.length - (intOf iv).toNat)
  case atStart => exact ⟨1, l, rfl, Nat.le_refl _, .inr rfl, rfl, List.Perm.refl _, fun x y u v h1 h2 _ _ => by omega, hrow, Fr.refl _ _⟩
  case round =>
    obtain ⟨i, c, rfl, hi1, hi2, hcl, hcp, hct, hcr, hcf⟩ := hrel
    clear hrow
    have HCP := Lib.hid hcp; clear hcp
    have HCR := Lib.hid hcr; clear hcr
    have HCF := Lib.hid hcf; clear hcf
    have HCT := Lib.hid hct; clear hct
    by_cases hil : i < l.length
    · go_wp2_with fail
      go_loopw [5] (fun jv wr2 => ∃ (j : Nat) (c : List Int), jv = .int .i64 j ∧ j ≤ i ∧ c.length = l.length ∧ c.Perm l ∧ RiseBut c i j ∧ RowIs wr2 g cap1 c ∧ Fr (fun k => k = g) w1 wr2) (fun jv _ => (intOf jv).toNat)
      case atStart => exact ⟨i, c, rfl, Nat.le_refl _, hcl, HCP.out, rise_start HCT.out, HCR.out, HCF.out⟩
      case round =>
        clear HCP HCR HCF HCT hcl
        clear c
        obtain ⟨j, c, rfl, hj, hcl, hcp, hct, hcr, hcf⟩ := hrel
        have HCP := Lib.hid hcp; clear hcp
        have HCR := Lib.hid hcr; clear hcr
        have HCF := Lib.hid hcf; clear hcf
        have HCT := Lib.hid hct; clear hct
        cases j with
        | zero =>
          go_wp2_with fail
          go_quiet (fail)
          go_wp2_with fail
          go_roundw
          case rel => exact ⟨i + 1, c, by go_num, by omega, by omega, hcl, HCP.out, rise_zero HCT.out, HCR.out.drewN _, HCF.out.drewN _⟩
          case measure => simp [intOf]; omega
        | succ j =>
          have hc1 := HCR.out.cell j (by omega)
          have hc2 := HCR.out.cell (j + 1) (by omega)
          have hz1 := HCR.out.frozen j
          have hz2 := HCR.out.frozen (j + 1)
          have hg1 : c.getD j 0 = c[j] := by rw [List.getD_eq_getElem?_getD, List.getElem?_eq_getElem (by omega)]; rfl
          have hg2 : c.getD (j + 1) 0 = c[j + 1] := by rw [List.getD_eq_getElem?_getD, List.getElem?_eq_getElem (by omega)]; rfl
          have HG1 := Lib.hid hg1; clear hg1
          have HG2 := Lib.hid hg2; clear hg2
          by_cases hlt : c[j + 1] < c[j]
          · go_wp2_with fail
            go_quiet (fail)
            go_wp2_with fail
            go_region
            have hsw : (c.set j c[j + 1]).set (j + 1) c[j] = swp c j (j + 1) := by unfold swp; rw [HG1.out, HG2.out]
            have hrw := ((HCR.out.drewN (nq + 1)).set (by omega) j c[j + 1]).set (by simp; omega) (j + 1) c[j]
            rw [hsw] at hrw
            have HRW := Lib.hid hrw; clear hrw hsw
            have HFW : Hid (Fr (fun k => k = g) w1 (((wr.drewN (nq + 1)).setCell ⟨g, j, none⟩ (.int .i64 c[j + 1])).setCell ⟨g, j + 1, none⟩ (.int .i64 c[j]))) := Lib.hid (((HCF.out.drewN (nq + 1)).setCell (p := ⟨g, j, none⟩) (.inl rfl) _).setCell (p := ⟨g, j + 1, none⟩) (.inl rfl) _)
            have HSW := Lib.hid (rise_swp HCT.out (by omega) hj (by rw [HG1.out, HG2.out]; exact hlt))
            have HPW := Lib.hid ((swp_perm c j (by omega)).trans HCP.out)
            clear hc1 hc2 hz1 hz2 HG1 HG2
            go_wp2_with fail
            go_roundw
            case rel => exact ⟨j, _, by go_num, by omega, by rw [swp_length]; exact hcl, HPW.out, HSW.out, HRW.out, HFW.out⟩
            case measure => simp [intOf]
          · go_wp2_with fail
            go_quiet (fail)
            go_wp2_with fail
            go_roundw
            case rel => exact ⟨i + 1, c, by go_num, by omega, by omega, hcl, HCP.out, rise_stop HCT.out (by omega) hj (by rw [HG1.out, HG2.out]; omega), HCR.out.drewN _, HCF.out.drewN _⟩
            case measure => simp [intOf]; omega
    · have hct : c = t := by
        have h1 := HCT.out
        refine rise_all (fun x y u v h2 h3 => h1 x y u v h2 (by omega)) (HCP.out.trans HP.out.symm) HT.out
      subst hct
      have hs := HCR.out.sla (by omega) hcm
      have HS := Lib.hid hs; clear hs
      have HW : Hid (Gr w wr) := Lib.hid (Fr.trans F1.out HCF.out (fun k h => .inr (by have : k = g := h; subst this; exact hge.out)))
      go_wp2_with fail
      go_ret
      exact ⟨_, _, by rw [hcl]; rfl, HS.out, fun q hq => by cases hq; exact hge.out, HW.out⟩

set_option maxHeartbeats 4000000 in
set_option maxRecDepth 100000 in
theorem refWithout_any (a : Option Addr) (cap : Nat) (l : List Int) (n : Int) (w : World) (h : SlA w a l.length cap (ints l)) (hl : l.length ≤ 100) :
    Calls Try.prog 81 #[.slice a l.length cap, .int .i64 n] w (RowNew (rDrop l n) w) := by
  obtain ⟨i0, hi, hz0, hz1, hz2⟩ := info_parts Try.infoint
  have e1 := h.le
  have e2 := h.max
  have HM := Lib.hid h
  have hrd : rDrop l n = kept (fun x => !(x != n)) l := by unfold rDrop kept; congr 1; funext x; simp
  obtain ⟨R, hR⟩ : ∃ R, R = kept (fun x => !(x != n)) l := ⟨_, rfl⟩
  have HR := Lib.hid hR
  rw [hrd, ← hR]
  clear h hrd hR
  go_enter Try.func81, Try.ntmps81
  go_wp2_with fail
  go_loopw [5, 6] (fun rv kv wr => ∃ k : Nat, kv = .int .i64 k ∧ k ≤ l.length ∧ wr.ownsRow w.heap.size 3 1 rv (kept (fun x => !(x != n)) (l.take k)).length (ints (kept (fun x => !(x != n)) (l.take k))) ∧ Gr w wr) (fun _ kv _ => l.length - (intOf kv).toNat)
  case atStart => exact ⟨0, rfl, Nat.zero_le _, World.ownsRow_nil _ _ _ _, Fr.refl _ _⟩
  case round =>
    obtain ⟨k, rfl, hk, hO, hfr⟩ := hrel
    by_cases hkl : k < l.length
    · have hks := kept_snoc (fun x => !(x != n)) l k hkl
      obtain ⟨bm, om, rfl, hcm⟩ := (HM.out.keep hfr (fun _ _ h => h)).int k hkl
      have hRl : (kept (fun x => !(x != n)) (l.take k)).length ≤ 100 := Nat.le_trans (List.length_filter_le _ _) (by simp; omega)
      have HO := Lib.hid hO; clear hO
      have HFR := Lib.hid hfr; clear hfr
      have hsz := HFR.out.size
      by_cases he : l[k] = n
      · have hne : (l[k] != n) = false := by simpa using he
        have HKS : Hid (kept (fun x => !(x != n)) (l.take (k + 1)) = kept (fun x => !(x != n)) (l.take k)) := Lib.hid (by rw [hks, if_pos (by simp [he])])
        clear hks he
        go_wp2_with fail
        go_roundw
        case rel => exact ⟨k + 1, by go_num, by omega, by rw [HKS.out]; exact HO.out, HFR.out⟩
        case measure => simp [intOf]; omega
      · have hne : (l[k] != n) = true := by simpa using he
        have HKS : Hid (kept (fun x => !(x != n)) (l.take (k + 1)) = kept (fun x => !(x != n)) (l.take k) ++ [l[k]]) := Lib.hid (by rw [hks, if_neg (by simp [he])])
        clear hks he
        generalize kept (fun x => !(x != n)) (l.take k) = T at *
        generalize l[k] = z at *
        go_wp2_with (at_builtin; refine wpList_append_own _ rfl _ _ 22 rfl w.heap.size 3 i0 (.int .i64 0) 1 8 Try.underlying22 hi hz0 hz1 hz2 rfl (by decide) _ _ _ rfl (HO.out.alloc _) ⟨wr.heap.size, 0, none⟩ 1 1 [.int .i64 z] rfl rfl (news_one _ _ _) (one_one _ rfl) (by unfold maxLen; omega) (by omega) (by rw [World.size_alloc]; omega) ?_)
        intro v1 w8 hown1 hgrow1 _
        have hf8 : Gr w w8 := (HFR.out.alloc _).grown hgrow1 (fun q hq => .inr ((HO.out.lt q hq).1))
        have HO1 := Lib.hid hown1
        have HF8 := Lib.hid hf8
        clear hown1 hgrow1 hf8
        go_wp2_with fail
        go_roundw
        case rel => exact ⟨k + 1, by go_num, by omega, by rw [HKS.out]; simpa using HO1.out, HF8.out⟩
        case measure => simp [intOf]; omega
    · have hkM : kept (fun x => !(x != n)) (l.take k) = R := by rw [HR.out, List.take_of_length_le (by omega)]
      rw [hkM] at hO
      clear hkM HR
      obtain ⟨ra, rc, rfl, hsR, hnew, -⟩ := SlA.of_own hO
      have HSR := Lib.hid hsR
      have HN := Lib.hid hnew
      have FX := Lib.hid hfr
      clear hO hfr hk hsR hnew
      go_wp2_with fail
      go_ret
      exact ⟨_, _, rfl, HSR.out, fun q hq => (HN.out q hq).1, FX.out⟩

set_option maxHeartbeats 4000000 in
set_option maxRecDepth 100000 in
theorem refForget_any (u : Vw) (y : VwP) (n : Int) (ds : List Int) (da : Option Addr) (dc : Nat) (W : World) (h : RwAt W u y ds da dc) (hlp : u.pas.length ≤ 100) :
    Calls Try.prog 35 #[.agg (rwArr u y ds da dc), .int .i64 n] W (RwEnd u y da (rForget u n) ds (fun l => .agg l) W) := by
  obtain ⟨w1, hw1⟩ : ∃ w1, w1 = (W.alloc (.cells (rwArr u y ds da dc) 51)).alloc (.cells rwZ 51) := ⟨_, rfl⟩
  have f1 : Gr W w1 := by rw [hw1]; exact ((Fr.refl _ _).alloc _).alloc _
  have V1 := Lib.hid (show w1.heap[W.heap.size]? = some (.cells (rwArr u y ds da dc) 51 (0, 0)) by rw [hw1, heap_alloc_if, if_neg (by simp), heap_alloc_if, if_pos rfl])
  have R1 := Lib.hid (show w1.heap[W.heap.size + 1]? = some (.cells rwZ 51 (0, 0)) by rw [hw1, heap_alloc_if, if_pos (by simp)])
  have s1 : W.heap.size + 1 < w1.heap.size := by rw [hw1]; simp
  have F1 := Lib.hid f1
  have HW1 := Lib.hid hw1
  have H1 := Lib.hid (h.gr f1)
  have e1 := h.act.le
  have e2 := h.act.max
  have e3 := h.pas.le
  have e4 := h.pas.max
  have e5 := h.dr.le
  have e6 := h.dr.max
  obtain ⟨S, hS⟩ : ∃ S : Nat → Prop, S = fun k => k = W.heap.size ∨ k = W.heap.size + 1 := ⟨_, rfl⟩
  have AP := Lib.hid (show VwApart S u y from h.new (fun k hk => by rw [hS] at hk; omega))
  have HS := Lib.hid (show S W.heap.size ∧ S (W.heap.size + 1) ∧ ∀ k, S k → k < w1.heap.size by rw [hS]; exact ⟨.inl rfl, .inr rfl, fun k hk => by omega⟩)
  clear hw1 f1 h hS
  have CW := Lib.hid (refWithout_any y.pa y.pc u.pas n w1 H1.out.pas hlp)
  unfold RwEnd rForget
  generalize rDrop u.pas n = l' at CW ⊢
  have y2 := (Bx.of_block V1.out) 2 _ rfl
  go_enter Try.func35, Try.ntmps35
  go_upto_region 1 with fail
  rw [← HW1.out]
  clear HW1
  go_wp2_with fail
  refine CW.out.mono ?_
  rintro e w2 ⟨a', c', rfl, hs', hn', f2⟩
  have V2 := Lib.hid (blk_keep f2 V1.out (fun h => h))
  have R2 := Lib.hid (blk_keep f2 R1.out (fun h => h))
  have F2 := Lib.hid (Gr.trans F1.out f2)
  have H2 := Lib.hid (show RwAt w2 ⟨u.self, u.act, u.am, l', u.pm⟩ ⟨y.aa, y.ac, a', c'⟩ ds da dc from ⟨(H1.out.gr f2).act, hs', (H1.out.gr f2).dr⟩)
  have KF := Lib.hid (show VwFrom w1 u y ⟨u.self, u.act, u.am, l', u.pm⟩ ⟨y.aa, y.ac, a', c'⟩ from ⟨fun q h => .inl ⟨h, rfl⟩, fun q h => .inr (hn' q h)⟩)
  have AP2 := Lib.hid (AP.out.next KF.out HS.out.2.2)
  clear f2 V1 R1 F1 CW y2 hs' H1 hn' AP
  have yc := (Bx.of_block V2.out) 2 _ rfl
  have zc := Lib.frozen_of_heap V2.out 2
  go_upto_region 2 with fail
  obtain ⟨w3, hw3⟩ : ∃ w3, w3 = World.setCell w2 ⟨W.heap.size, 2, none⟩ (.slice a' l'.length c') := ⟨_, rfl⟩
  rw [← hw3]
  have f3 : Fr (fun k => k = W.heap.size) w2 w3 := by rw [hw3]; exact (Fr.refl (fun k => k = W.heap.size) _).setCell (p := ⟨W.heap.size, 2, none⟩) (.inl rfl) _
  have b3 : w3.heap[W.heap.size]? = some (.cells (rwArr ⟨u.self, u.act, u.am, l', u.pm⟩ ⟨y.aa, y.ac, a', c'⟩ ds da dc) 51 (0, 0)) := by rw [hw3]; exact blk_set1 V2.out 2 _
  clear hw3 yc zc
  have V3 := Lib.hid b3
  have R3 := Lib.hid (blk_keep f3 R2.out (by omega))
  have F3 := Lib.hid (fr_new F2.out f3 (Nat.le_refl _))
  have H3 := Lib.hid (H2.out.store f3 AP2.out HS.out.1 V2.out (noU32_arr _ _ _ _ _))
  clear f3 b3 V2 R2 F2 H2
  go_upto_region 2 with fail
  refine wp_region_lit ?_
  refine wpList_load_mid (by rfl) 51 _ (by rfl) W.heap.size 0 (by rfl) (Array.toList (rwArr ⟨u.self, u.act, u.am, l', u.pm⟩ ⟨y.aa, y.ac, a', c'⟩ ds da dc)) _ (blk_range V3.out) Try.underlying51 rfl Try.infoRefView ?_
  go_wp2_with (refine wpList_storeW (vs := rwArr ⟨u.self, u.act, u.am, l', u.pm⟩ ⟨y.aa, y.ac, a', c'⟩ ds da dc) R3.out (by rfl) 51 _ _ (by rfl) (by rfl) (by rfl) rfl Try.infoRefView (by rw [← Array.all_toList]; rfl) ?_)
  intro w8 f8 b8
  have F8 := Lib.hid (fr_new F3.out f8 (show W.heap.size ≤ W.heap.size + 1 by omega))
  have R8 := Lib.hid b8
  have H8 := Lib.hid (H3.out.store f8 AP2.out HS.out.2.1 R3.out (by first | exact noU32_z | exact noU32_arr _ _ _ _ _))
  clear f8 b8
  have L8 : Hid ((loadVar 51 ⟨W.heap.size + 1, 0, none⟩).run Try.prog w8 = .ok (.agg (rwArr ⟨u.self, u.act, u.am, l', u.pm⟩ ⟨y.aa, y.ac, a', c'⟩ ds da dc)) w8) := Lib.hid (run_loadVar_mid w8 (W.heap.size + 1) 0 51 (Array.toList (rwArr ⟨u.self, u.act, u.am, l', u.pm⟩ ⟨y.aa, y.ac, a', c'⟩ ds da dc)) _ (blk_range R8.out) Try.underlying51 rfl Try.infoRefView)
  have A8 : Hid ((asAddr (.pointer (some ⟨W.heap.size + 1, 0, none⟩))).run Try.prog w8 = .ok ⟨W.heap.size + 1, 0, none⟩ w8) := Lib.hid (by simp [go_sem])
  go_wp2_with fail
  refine bodyPost_ret (v := .agg (rwArr ⟨u.self, u.act, u.am, l', u.pm⟩ ⟨y.aa, y.ac, a', c'⟩ ds da dc)) (by simp [results, Try.results35, Sem.run_bind, Result.andThen_ok, L8.out, A8.out]) rfl ?_
  exact ⟨_, _, _, rfl, H8.out, KF.out.mono (by omega), DaOf.refl _, F8.out⟩

set_option maxHeartbeats 4000000 in
set_option maxRecDepth 100000 in
theorem refOne_any (u : Vw) (y : VwP) (ds : List Int) (da : Option Addr) (dc : Nat) (a : Option Addr) (cap : Nat) (l : List Int) (W : World) (h : RwAt W u y ds da dc) (hl : SlA W a l.length cap (ints l)) (hne : l ≠ []) (hlen : l.length ≤ 100) (hr : ∀ x ∈ ds, 0 ≤ x ∧ x < 4294967296) :
    Calls Try.prog 80 #[.agg (rwArr u y ds da dc), .slice a l.length cap] W (fun e w' => ∃ da' dc', e = .returned (.tuple #[.agg (rwArr u y (oneV ds (srt l)).2.2 da' dc'), .int .i64 (oneV ds (srt l)).1]) ∧ RwAt w' u y (oneV ds (srt l)).2.2 da' dc' ∧ DaOf da da' ∧ Gr W w') := by
  obtain ⟨w1, hw1⟩ : ∃ w1, w1 = (W.alloc (.cells (rwArr u y ds da dc) 51)).alloc (.cells rwZ 51) := ⟨_, rfl⟩
  have f1 : Gr W w1 := by rw [hw1]; exact ((Fr.refl _ _).alloc _).alloc _
  have V1 := Lib.hid (show w1.heap[W.heap.size]? = some (.cells (rwArr u y ds da dc) 51 (0, 0)) by rw [hw1, heap_alloc_if, if_neg (by simp), heap_alloc_if, if_pos rfl])
  have R1 := Lib.hid (show w1.heap[W.heap.size + 1]? = some (.cells rwZ 51 (0, 0)) by rw [hw1, heap_alloc_if, if_pos (by simp)])
  have s1 : W.heap.size + 1 < w1.heap.size := by rw [hw1]; simp
  have F1 := Lib.hid f1
  have HW1 := Lib.hid hw1
  have H1 := Lib.hid (h.gr f1)
  have e1 := h.act.le
  have e2 := h.act.max
  have e3 := h.pas.le
  have e4 := h.pas.max
  have e5 := h.dr.le
  have e6 := h.dr.max
  obtain ⟨S, hS⟩ : ∃ S : Nat → Prop, S = fun k => k = W.heap.size ∨ k = W.heap.size + 1 := ⟨_, rfl⟩
  have AP := Lib.hid (show VwApart S u y from h.new (fun k hk => by rw [hS] at hk; omega))
  have HS := Lib.hid (show S W.heap.size ∧ S (W.heap.size + 1) ∧ ∀ k, S k → k < w1.heap.size by rw [hS]; exact ⟨.inl rfl, .inr rfl, fun k hk => by omega⟩)
  clear hw1 f1 h hS
  obtain ⟨t, ht⟩ : ∃ t, t = srt l := ⟨_, rfl⟩
  have hpos : 0 < t.length := by rw [ht]; exact List.length_pos_iff.2 (srt_nil hne)
  have htl : t.length ≤ 100 := by rw [ht, srt_len]; exact hlen
  obtain ⟨b0, o0, ha0, -⟩ := hl.int 0 (List.length_pos_iff.2 hne)
  subst ha0
  have CS := Lib.hid (refSortedN_any b0 o0 cap l t w1 (hl.keep F1.out (fun _ _ h => h)) (by rw [ht]; exact srt_perm l) (by rw [ht]; exact srt_up l) (by omega))
  obtain ⟨oo, hoo⟩ : ∃ oo, oo = oneV ds (srt l) := ⟨_, rfl⟩
  rw [← hoo]
  unfold oneV at hoo
  rw [← ht, if_neg (by intro e; rw [e] at hpos; simp at hpos)] at hoo
  have HO := Lib.hid hoo
  have e7 := hl.le
  have e8 := hl.max
  have HR := Lib.hid hr
  clear ht hoo hne hl hr
  go_enter Try.func80, Try.ntmps80
  go_upto_region 1 with fail
  rw [← HW1.out]
  clear HW1
  go_wp2_with fail
  refine CS.out.mono ?_
  rintro e w2 ⟨ta, tc, rfl, hs', hn', f2⟩
  have V2 := Lib.hid (blk_keep f2 V1.out (fun h => h))
  have R2 := Lib.hid (blk_keep f2 R1.out (fun h => h))
  have F2 := Lib.hid (Gr.trans F1.out f2)
  have H2 := Lib.hid (H1.out.gr f2)
  have HT := Lib.hid hs'
  have e9 := hs'.le
  have e10 := hs'.max
  have y5 := (Bx.of_block V2.out) 5 _ rfl
  clear f2 V1 R1 F1 CS hs' H1
  have HN := Lib.hid hn'
  have APT := Lib.hid (show ∀ q, ta = some q → ¬ S q.block from fun q hq hs => by have := HS.out.2.2 _ hs; have := hn' q hq; omega)
  clear hn'
  obtain ⟨cb, hcb⟩ : ∃ cb, cb = decide (t.length < 2 ∨ ds = []) := ⟨_, rfl⟩
  have HCB := Lib.hid hcb
  clear hcb
  obtain ⟨dn, hdn⟩ : ∃ n, n = ds.length := ⟨_, rfl⟩
  rw [← hdn] at y5
  have HDN := Lib.hid hdn
  clear hdn
  go_upto_region 2 with fail
  go_cut [17] from 9 to 17 (fun c wx => c = .bool cb ∧ wx = w2)
  case first =>
    by_cases h1 : t.length < 2
    · have hd := Lib.hid (show cb = true by rw [HCB.out]; simp [h1])
      have h1z : (t.length : Int) < 2 := by omega
      go_wp2_with fail
      go_meet
      exact ⟨by rw [hd.out], rfl⟩
    · have h1z : ¬ (t.length : Int) < 2 := by omega
      by_cases h2 : ds = []
      · have hd := Lib.hid (show cb = true by rw [HCB.out]; simp [h2])
        have h2z : dn = 0 := by rw [HDN.out, h2]; rfl
        subst h2z
        clear h2
        go_wp2_with fail
        go_meet
        exact ⟨by rw [hd.out], rfl⟩
      · have hd := Lib.hid (show cb = false by rw [HCB.out]; simp [h1, h2])
        have h2z : ((dn : Int) == 0) = false := by rw [HDN.out]; simpa using h2
        clear h2
        go_wp2_with fail
        go_meet
        exact ⟨by rw [hd.out], rfl⟩
  case rest =>
    obtain ⟨rfl, rfl⟩ := hcut
    clear y5 HDN
    by_cases hx : t.length < 2 ∨ ds = []
    · have hoo : oo = (t[0], true, ds) := by
        have := HO.out
        unfold belN bel at this
        rw [this]
        rcases hx with hx | hx
        · rw [if_neg (by omega)]
          rw [List.getD_eq_getElem?_getD, List.getElem?_eq_getElem (by simpa using hpos)]
          rfl
        · subst hx
          split
          · rw [List.getD_eq_getElem?_getD, List.getElem?_eq_getElem (by simpa using hpos)]
            rfl
          · rw [List.getD_eq_getElem?_getD, List.getElem?_eq_getElem (by simpa using hpos)]
            rfl
      obtain rfl : cb = true := by rw [HCB.out]; simpa using hx
      subst hoo
      obtain ⟨b1, o1, rfl, hc1⟩ := HT.out.int 0 hpos
      obtain ⟨xv, hxv⟩ : ∃ x, x = t[0] := ⟨_, rfl⟩
      rw [← hxv] at hc1
      have HXV := Lib.hid hxv
      have hb1 : b1 ≠ W.heap.size + 1 := fun e => APT.out _ rfl (by rw [e]; exact HS.out.2.1)
      have hposz : (0 : Int) < (t.length : Int) := by omega
      clear hxv HO HCB hx
      haveI : Nonempty (WC (Fr (fun k => k = W.heap.size + 1) wc)) := ⟨⟨wc, Fr.refl _ _⟩⟩
      have zt : ∀ z : WC (Fr (fun k => k = W.heap.size + 1) wc), z.val.cell? ⟨b1, o1, none⟩ = some (.int .i64 xv) := fun z => z.ok.cell hc1 hb1
      obtain ⟨wd, hwd⟩ : ∃ wd, wd = wc.drew := ⟨_, rfl⟩
      have fd : Gr wc wd := by rw [hwd]; exact (Fr.refl _ _).drew
      have HWD := Lib.hid hwd
      have V3 := Lib.hid (blk_keep fd V2.out (fun h => h))
      have R3 := Lib.hid (blk_keep fd R2.out (fun h => h))
      have H3 := Lib.hid (H2.out.gr fd)
      have F3 := Lib.hid (Gr.trans F2.out fd)
      have FD := Lib.hid fd
      clear hwd fd V2 R2 H2 F2 hc1
      go_upto_region 3 with fail
      refine wp_region_plan [0, 4] (Plan.seq (List.range 6) .done) (fun w' => ∃ z : WC (Fr (fun k => k = W.heap.size + 1) wc), w' = z.val) (by kernel_rfl) (by kernel_rfl) (fun c a w d v h => by cases d <;> exact h) (fun c a w d v h => by cases d <;> exact h) ⟨⟨wc.drew, (Fr.refl _ _).drew⟩, rfl⟩ ?_
      rw [← HWD.out]
      clear HWD
      simp only [Plan.seq, List.range, List.range.loop, List.foldr]
      refine wpV_e (by simp only [List.getElem?_toArray, List.getElem?_cons_zero] <;> rfl) (by rfl) ?_
      refine wpList_load_mid (by rfl) 51 _ (by rfl) W.heap.size 0 (by rfl) (Array.toList (rwArr u y ds da dc)) _ (blk_range V3.out) Try.underlying51 rfl Try.infoRefView ?_
      go_wp2_with fail
      refine ⟨⟨⟨wd, Fr.mono (T := fun k => k = W.heap.size + 1) FD.out (fun _ _ h => h.elim)⟩, rfl⟩, ?_⟩
      simp only [Act.put, List.setIfInBounds_toArray, List.set_cons_succ, List.set_cons_zero]
      repeat (refine wpV_q (by simp only [List.getElem?_toArray, List.getElem?_cons_succ, List.getElem?_cons_zero] <;> rfl) (by rfl) (by rfl) ?_; go_big_quiet_step (fail); refine wpQuiet_nil ?_)
      refine wpV_e (by simp only [List.getElem?_toArray, List.getElem?_cons_succ, List.getElem?_cons_zero] <;> rfl) (by rfl) ?_
      go_wp2_with (refine wpList_storeW (vs := rwArr u y ds da dc) R3.out (by rfl) 51 _ _ (by rfl) (by rfl) (by rfl) rfl Try.infoRefView (by rw [← Array.all_toList]; rfl) ?_)
      intro w6 f6 b6
      refine wpList_nil ?_
      refine ⟨⟨⟨w6, Fr.trans (Fr.mono (T := fun k => k = W.heap.size + 1) FD.out (fun _ _ h => h.elim)) f6 (fun k h => .inl h)⟩, rfl⟩, ?_⟩
      repeat (refine wpV_q (by simp only [List.getElem?_toArray, List.getElem?_cons_succ, List.getElem?_cons_zero] <;> rfl) (by rfl) (by rfl) ?_; go_big_quiet_step (fail); refine wpQuiet_nil ?_)
      refine wpV_done ?_
      clear zt this
      have F8 := Lib.hid (fr_new F3.out f6 (show W.heap.size ≤ W.heap.size + 1 by omega))
      have R8 := Lib.hid b6
      have H8 := Lib.hid (H3.out.store f6 AP.out HS.out.2.1 R3.out noU32_z)
      clear f6 b6 FD V3 R3 H3 F3
      have L8 : Hid ((loadVar 51 ⟨W.heap.size + 1, 0, none⟩).run Try.prog w6 = .ok (.agg (rwArr u y ds da dc)) w6) := Lib.hid (run_loadVar_mid w6 (W.heap.size + 1) 0 51 (Array.toList (rwArr u y ds da dc)) _ (blk_range R8.out) Try.underlying51 rfl Try.infoRefView)
      have A8 : Hid ((asAddr (.pointer (some ⟨W.heap.size + 1, 0, none⟩))).run Try.prog w6 = .ok ⟨W.heap.size + 1, 0, none⟩ w6) := Lib.hid (by simp [go_sem])
      go_wp2_with fail
      refine bodyPost_ret (v := .tuple #[.agg (rwArr u y ds da dc), .int .i64 xv]) (by simp [results, Try.results80, Sem.run_bind, Result.andThen_ok, L8.out, A8.out]) rfl ?_
      exact ⟨da, dc, by rw [HXV.out], H8.out, DaOf.refl _, F8.out⟩
    · have hx1 : 2 ≤ t.length := by omega
      obtain ⟨d0, dr, rfl⟩ : ∃ d0 dr, ds = d0 :: dr := by
        cases ds with
        | nil => exact absurd (.inr rfl) hx
        | cons a b => exact ⟨a, b, rfl⟩
      obtain rfl : cb = false := by rw [HCB.out]; simpa using hx
      obtain ⟨hd0, hd1⟩ := HR.out d0 (by simp)
      obtain ⟨j, hj, hjl⟩ : ∃ j : Nat, d0 % (t.length : Int) = j ∧ j < t.length := by
        have h1 := Int.emod_lt_of_pos d0 (show (0 : Int) < t.length by omega)
        have h2 := Int.emod_nonneg d0 (show (t.length : Int) ≠ 0 by omega)
        exact ⟨(d0 % (t.length : Int)).toNat, by omega, by omega⟩
      have htm : d0.tmod (t.length : Int) = j := by rw [Int.tmod_eq_emod_of_nonneg hd0]; exact hj
      have hoo : oo = (t[j], true, dr) := by
        have := HO.out
        unfold belN bel at this
        rw [this, if_pos (by omega)]
        simp only [hj, Int.toNat_natCast]
        rw [List.getD_eq_getElem?_getD, List.getElem?_eq_getElem hjl]
        rfl
      subst hoo
      obtain ⟨bd, od, hda, hcd⟩ := H2.out.dr.cell 0 (.int .u32 d0) (by simp)
      subst hda
      obtain ⟨b1, o1, rfl, hc1⟩ := HT.out.int j hjl
      obtain ⟨xv, hxv⟩ : ∃ x, x = t[j] := ⟨_, rfl⟩
      rw [← hxv] at hc1
      have HXV := Lib.hid hxv
      have hb1 : b1 ≠ W.heap.size + 1 := fun e => APT.out _ rfl (by rw [e]; exact HS.out.2.1)
      have hb1' : b1 ≠ W.heap.size := fun e => APT.out _ rfl (by rw [e]; exact HS.out.1)
      have hne0 : ((t.length : Int) == 0) = false := beq_eq_false_iff_ne.2 (by omega)
      have hjz : (j : Int) < (t.length : Int) := by omega
      have y5 := (Bx.of_block V2.out) 5 _ rfl
      simp only [List.length_cons] at y5 e5
      clear hxv HO HCB hx hj HR
      rw [Nat.add_zero] at hcd
      by_cases hdc : dc = 1
      · subst hdc
        obtain rfl : dr = [] := List.eq_nil_of_length_eq_zero (by omega)
        have yc := (Bx.of_block V2.out) 5 _ rfl
        have zc := Lib.frozen_of_heap V2.out 5
        go_upto_region 6 with fail
        obtain ⟨w3, hw3⟩ : ∃ w3, w3 = World.setCell wc ⟨W.heap.size, 5, none⟩ (.slice (some ⟨bd, od, none⟩) 0 0) := ⟨_, rfl⟩
        rw [← hw3]
        have f3 : Fr (fun k => k = W.heap.size) wc w3 := by rw [hw3]; exact (Fr.refl (fun k => k = W.heap.size) _).setCell (p := ⟨W.heap.size, 5, none⟩) (.inl rfl) _
        have b3 : w3.heap[W.heap.size]? = some (.cells (rwArr u y [] (some ⟨bd, od, none⟩) 0) 51 (0, 0)) := by rw [hw3]; exact blk_set1 V2.out 5 _
        clear hw3 yc zc
        have V3' := Lib.hid b3
        have R3' := Lib.hid (blk_keep f3 R2.out (by omega))
        have F3' := Lib.hid (fr_new F2.out f3 (Nat.le_refl _))
        have HX := H2.out.store f3 AP.out HS.out.1 V2.out (noU32_arr _ _ _ _ _)
        have H3' : Hid (RwAt w3 u y [] (some ⟨bd, od, none⟩) 0) := Lib.hid ⟨HX.act, HX.pas, ⟨Nat.le_refl _, by omega, fun j u hj => by simp at hj⟩⟩
        replace hc1 := f3.cell hc1 hb1'
        clear f3 b3 HX V2 R2 F2 H2 y5 hcd
        haveI : Nonempty (WC (Fr (fun k => k = W.heap.size + 1) w3)) := ⟨⟨w3, Fr.refl _ _⟩⟩
        have zt : ∀ z : WC (Fr (fun k => k = W.heap.size + 1) w3), z.val.cell? ⟨b1, o1 + j, none⟩ = some (.int .i64 xv) := fun z => z.ok.cell hc1 hb1
        obtain ⟨wd, hwd⟩ : ∃ wd, wd = w3.drew := ⟨_, rfl⟩
        have fd : Gr w3 wd := by rw [hwd]; exact (Fr.refl _ _).drew
        have HWD := Lib.hid hwd
        have V3 := Lib.hid (blk_keep fd V3'.out (fun h => h))
        have R3 := Lib.hid (blk_keep fd R3'.out (fun h => h))
        have H3 := Lib.hid (H3'.out.gr fd)
        have F3 := Lib.hid (Gr.trans F3'.out fd)
        have FD := Lib.hid fd
        clear hwd fd V3' R3' H3' F3' hc1
        go_upto_region 6 with fail
        refine wp_region_plan [0, 5] (Plan.seq (List.range 7) .done) (fun w' => ∃ z : WC (Fr (fun k => k = W.heap.size + 1) w3), w' = z.val) (by kernel_rfl) (by kernel_rfl) (fun c a w d v h => by cases d <;> exact h) (fun c a w d v h => by cases d <;> exact h) ⟨⟨w3.drew, (Fr.refl _ _).drew⟩, rfl⟩ ?_
        rw [← HWD.out]
        clear HWD
        simp only [Plan.seq, List.range, List.range.loop, List.foldr]
        refine wpV_e (by simp only [List.getElem?_toArray, List.getElem?_cons_zero] <;> rfl) (by rfl) ?_
        refine wpList_load_mid (by rfl) 51 _ (by rfl) W.heap.size 0 (by rfl) (Array.toList (rwArr u y [] (some ⟨bd, od, none⟩) 0)) _ (blk_range V3.out) Try.underlying51 rfl Try.infoRefView ?_
        go_wp2_with fail
        refine ⟨⟨⟨wd, Fr.mono (T := fun k => k = W.heap.size + 1) FD.out (fun _ _ h => h.elim)⟩, rfl⟩, ?_⟩
        simp only [Act.put, List.setIfInBounds_toArray, List.set_cons_succ, List.set_cons_zero]
        repeat (refine wpV_q (by simp only [List.getElem?_toArray, List.getElem?_cons_succ, List.getElem?_cons_zero] <;> rfl) (by rfl) (by rfl) ?_; go_big_quiet_step (fail); refine wpQuiet_nil ?_)
        refine wpV_e (by simp only [List.getElem?_toArray, List.getElem?_cons_succ, List.getElem?_cons_zero] <;> rfl) (by rfl) ?_
        go_wp2_with (refine wpList_storeW (vs := rwArr u y [] (some ⟨bd, od, none⟩) 0) R3.out (by rfl) 51 _ _ (by rfl) (by rfl) (by rfl) rfl Try.infoRefView (by rw [← Array.all_toList]; rfl) ?_)
        intro w6 f6 b6
        refine wpList_nil ?_
        refine ⟨⟨⟨w6, Fr.trans (Fr.mono (T := fun k => k = W.heap.size + 1) FD.out (fun _ _ h => h.elim)) f6 (fun k h => .inl h)⟩, rfl⟩, ?_⟩
        repeat (refine wpV_q (by simp only [List.getElem?_toArray, List.getElem?_cons_succ, List.getElem?_cons_zero] <;> rfl) (by rfl) (by rfl) ?_; go_big_quiet_step (fail); refine wpQuiet_nil ?_)
        refine wpV_done ?_
        clear zt this
        have F8 := Lib.hid (fr_new F3.out f6 (show W.heap.size ≤ W.heap.size + 1 by omega))
        have R8 := Lib.hid b6
        have H8 := Lib.hid (H3.out.store f6 AP.out HS.out.2.1 R3.out noU32_z)
        clear f6 b6 FD V3 R3 H3 F3
        have L8 : Hid ((loadVar 51 ⟨W.heap.size + 1, 0, none⟩).run Try.prog w6 = .ok (.agg (rwArr u y [] (some ⟨bd, od, none⟩) 0)) w6) := Lib.hid (run_loadVar_mid w6 (W.heap.size + 1) 0 51 (Array.toList (rwArr u y [] (some ⟨bd, od, none⟩) 0)) _ (blk_range R8.out) Try.underlying51 rfl Try.infoRefView)
        have A8 : Hid ((asAddr (.pointer (some ⟨W.heap.size + 1, 0, none⟩))).run Try.prog w6 = .ok ⟨W.heap.size + 1, 0, none⟩ w6) := Lib.hid (by simp [go_sem])
        go_wp2_with fail
        refine bodyPost_ret (v := .tuple #[.agg (rwArr u y [] (some ⟨bd, od, none⟩) 0), .int .i64 xv]) (by simp [results, Try.results80, Sem.run_bind, Result.andThen_ok, L8.out, A8.out]) rfl ?_
        exact ⟨_, _, by rw [HXV.out], H8.out, fun q' h => ⟨⟨bd, od, none⟩, rfl, by cases h; rfl⟩, F8.out⟩
      · have hdc1 : 1 < dc := by omega
        have yc := (Bx.of_block V2.out) 5 _ rfl
        have zc := Lib.frozen_of_heap V2.out 5
        go_upto_region 6 with fail
        obtain ⟨w3, hw3⟩ : ∃ w3, w3 = World.setCell wc ⟨W.heap.size, 5, none⟩ (.slice (some ⟨bd, od + 1, none⟩) dr.length (dc - 1)) := ⟨_, rfl⟩
        rw [← hw3]
        have f3 : Fr (fun k => k = W.heap.size) wc w3 := by rw [hw3]; exact (Fr.refl (fun k => k = W.heap.size) _).setCell (p := ⟨W.heap.size, 5, none⟩) (.inl rfl) _
        have b3 : w3.heap[W.heap.size]? = some (.cells (rwArr u y dr (some ⟨bd, od + 1, none⟩) (dc - 1)) 51 (0, 0)) := by rw [hw3]; exact blk_set1 V2.out 5 _
        clear hw3 yc zc
        have V3' := Lib.hid b3
        have R3' := Lib.hid (blk_keep f3 R2.out (by omega))
        have F3' := Lib.hid (fr_new F2.out f3 (Nat.le_refl _))
        have HX := H2.out.store f3 AP.out HS.out.1 V2.out (noU32_arr _ _ _ _ _)
        have H3' : Hid (RwAt w3 u y dr (some ⟨bd, od + 1, none⟩) (dc - 1)) := Lib.hid ⟨HX.act, HX.pas, ⟨by have := HX.dr.le; simp at this ⊢; omega, by omega, fun j u hj => by
          obtain ⟨b', o', hp, hc'⟩ := HX.dr.cell (j + 1) u (by simpa using hj)
          cases hp
          exact ⟨bd, _, rfl, by rw [← hc', show od + 1 + j = od + (j + 1) by omega]⟩⟩⟩
        replace hc1 := f3.cell hc1 hb1'
        clear f3 b3 HX V2 R2 F2 H2 y5 hcd
        haveI : Nonempty (WC (Fr (fun k => k = W.heap.size + 1) w3)) := ⟨⟨w3, Fr.refl _ _⟩⟩
        have zt : ∀ z : WC (Fr (fun k => k = W.heap.size + 1) w3), z.val.cell? ⟨b1, o1 + j, none⟩ = some (.int .i64 xv) := fun z => z.ok.cell hc1 hb1
        obtain ⟨wd, hwd⟩ : ∃ wd, wd = w3.drew := ⟨_, rfl⟩
        have fd : Gr w3 wd := by rw [hwd]; exact (Fr.refl _ _).drew
        have HWD := Lib.hid hwd
        have V3 := Lib.hid (blk_keep fd V3'.out (fun h => h))
        have R3 := Lib.hid (blk_keep fd R3'.out (fun h => h))
        have H3 := Lib.hid (H3'.out.gr fd)
        have F3 := Lib.hid (Gr.trans F3'.out fd)
        have FD := Lib.hid fd
        clear hwd fd V3' R3' H3' F3' hc1
        go_upto_region 6 with fail
        refine wp_region_plan [0, 5] (Plan.seq (List.range 7) .done) (fun w' => ∃ z : WC (Fr (fun k => k = W.heap.size + 1) w3), w' = z.val) (by kernel_rfl) (by kernel_rfl) (fun c a w d v h => by cases d <;> exact h) (fun c a w d v h => by cases d <;> exact h) ⟨⟨w3.drew, (Fr.refl _ _).drew⟩, rfl⟩ ?_
        rw [← HWD.out]
        clear HWD
        simp only [Plan.seq, List.range, List.range.loop, List.foldr]
        refine wpV_e (by simp only [List.getElem?_toArray, List.getElem?_cons_zero] <;> rfl) (by rfl) ?_
        refine wpList_load_mid (by rfl) 51 _ (by rfl) W.heap.size 0 (by rfl) (Array.toList (rwArr u y dr (some ⟨bd, od + 1, none⟩) (dc - 1))) _ (blk_range V3.out) Try.underlying51 rfl Try.infoRefView ?_
        go_wp2_with fail
        refine ⟨⟨⟨wd, Fr.mono (T := fun k => k = W.heap.size + 1) FD.out (fun _ _ h => h.elim)⟩, rfl⟩, ?_⟩
        simp only [Act.put, List.setIfInBounds_toArray, List.set_cons_succ, List.set_cons_zero]
        repeat (refine wpV_q (by simp only [List.getElem?_toArray, List.getElem?_cons_succ, List.getElem?_cons_zero] <;> rfl) (by rfl) (by rfl) ?_; go_big_quiet_step (fail); refine wpQuiet_nil ?_)
        refine wpV_e (by simp only [List.getElem?_toArray, List.getElem?_cons_succ, List.getElem?_cons_zero] <;> rfl) (by rfl) ?_
        go_wp2_with (refine wpList_storeW (vs := rwArr u y dr (some ⟨bd, od + 1, none⟩) (dc - 1)) R3.out (by rfl) 51 _ _ (by rfl) (by rfl) (by rfl) rfl Try.infoRefView (by rw [← Array.all_toList]; rfl) ?_)
        intro w6 f6 b6
        refine wpList_nil ?_
        refine ⟨⟨⟨w6, Fr.trans (Fr.mono (T := fun k => k = W.heap.size + 1) FD.out (fun _ _ h => h.elim)) f6 (fun k h => .inl h)⟩, rfl⟩, ?_⟩
        repeat (refine wpV_q (by simp only [List.getElem?_toArray, List.getElem?_cons_succ, List.getElem?_cons_zero] <;> rfl) (by rfl) (by rfl) ?_; go_big_quiet_step (fail); refine wpQuiet_nil ?_)
        refine wpV_done ?_
        clear zt this
        have F8 := Lib.hid (fr_new F3.out f6 (show W.heap.size ≤ W.heap.size + 1 by omega))
        have R8 := Lib.hid b6
        have H8 := Lib.hid (H3.out.store f6 AP.out HS.out.2.1 R3.out noU32_z)
        clear f6 b6 FD V3 R3 H3 F3
        have L8 : Hid ((loadVar 51 ⟨W.heap.size + 1, 0, none⟩).run Try.prog w6 = .ok (.agg (rwArr u y dr (some ⟨bd, od + 1, none⟩) (dc - 1))) w6) := Lib.hid (run_loadVar_mid w6 (W.heap.size + 1) 0 51 (Array.toList (rwArr u y dr (some ⟨bd, od + 1, none⟩) (dc - 1))) _ (blk_range R8.out) Try.underlying51 rfl Try.infoRefView)
        have A8 : Hid ((asAddr (.pointer (some ⟨W.heap.size + 1, 0, none⟩))).run Try.prog w6 = .ok ⟨W.heap.size + 1, 0, none⟩ w6) := Lib.hid (by simp [go_sem])
        go_wp2_with fail
        refine bodyPost_ret (v := .tuple #[.agg (rwArr u y dr (some ⟨bd, od + 1, none⟩) (dc - 1)), .int .i64 xv]) (by simp [results, Try.results80, Sem.run_bind, Result.andThen_ok, L8.out, A8.out]) rfl ?_
        exact ⟨_, _, by rw [HXV.out], H8.out, fun q' h => ⟨⟨bd, od, none⟩, rfl, by cases h; rfl⟩, F8.out⟩


end Go.Proofs.Ytdpnkikaciigoaa
