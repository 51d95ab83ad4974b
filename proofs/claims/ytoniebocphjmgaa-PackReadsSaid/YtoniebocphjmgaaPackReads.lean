/-
  The walk of PackReads.
-/
import Derived.Test.YtoniebocphjmgaaPackSpeaks
import Derived.Test.YtoniebocphjmgaaPackReadsSpec
import Derived.Test.YtoniebocphjmgaaRegionY
import Derived.Test.YtoniebocphjmgaaSlcStr
import Derived.Test.YtoniebocphjmgaaPackReadsC
import Derived.Deep.CutBlock
import Derived.Deep.CutRange
namespace Go.Proofs.Ytoniebocphjmgaa
open Go.RowKit Go.Proofs

/-- the boxes of PackReads in the world w: the acts in L, the rest in R, the pieces in V -/
structure RdSt (W : World) (L R V : Nat) (al : Option Addr) (cl : Nat) (l : List Int) (w : World) (rest : ByteArray) (v : Value) (want : List ByteArray) : Prop where
  cl : w.cell? ⟨L, 0, none⟩ = some (.slice al l.length cl)
  cr : w.cell? ⟨R, 0, none⟩ = some (.string rest)
  zr : w.frozen? ⟨R, 0, none⟩ = false
  cv : w.cell? ⟨V, 0, none⟩ = some v
  zv : w.frozen? ⟨V, 0, none⟩ = false
  own : w.ownsRow (V + 1) 9 1 v want.length (want.map Value.string)
  bl : Below W.heap.size W w
  hL : W.heap.size ≤ L
  hLR : L < R
  hRV : R < V

theorem RdSt.drew {W : World} {L R V : Nat} {al : Option Addr} {cl : Nat} {l : List Int} {w : World} {rest : ByteArray} {v : Value} {want : List ByteArray} (st : RdSt W L R V al cl l w rest v want) : RdSt W L R V al cl l w.drew rest v want :=
  ⟨st.cl, st.cr, st.zr, st.cv, st.zv, st.own.drew, st.bl.drew, st.hL, st.hLR, st.hRV⟩

theorem RdSt.next {W : World} {L R V : Nat} {al : Option Addr} {cl : Nat} {l : List Int} {w w4 : World} {rest rest' : ByteArray} {v v' : Value} {want want' : List ByteArray} (st : RdSt W L R V al cl l w rest v want)
    (f : Fr (fun k => V + 1 ≤ k) w w4) (own : w4.ownsRow (V + 1) 9 1 v' want'.length (want'.map Value.string)) :
    RdSt W L R V al cl l ((w4.setCell ⟨V, 0, none⟩ v').setCell ⟨R, 0, none⟩ (.string rest')) rest' v' want' := by
  have hL := st.hLR
  have hR := st.hRV
  have g1 : Fr (fun k => k = V ∨ k = R) w4 ((w4.setCell ⟨V, 0, none⟩ v').setCell ⟨R, 0, none⟩ (.string rest')) :=
    ((Fr.refl (fun k => k = V ∨ k = R) w4).setCell (p := ⟨V, 0, none⟩) (.inl (.inl rfl)) _).setCell (p := ⟨R, 0, none⟩) (.inl (.inr rfl)) _
  have cv4 := f.cell st.cv (by simp)
  have cr4 := f.cell st.cr (by simp <;> omega)
  have cr5 : (w4.setCell ⟨V, 0, none⟩ v').cell? ⟨R, 0, none⟩ = some (.string rest) := by rw [World.cell?_setCell_other _ _ _ _ (by simp <;> omega)]; exact cr4
  refine ⟨g1.cell (f.cell st.cl (by simp <;> omega)) (by simp <;> omega), World.cell?_setCell_same _ _ _ cr5, ?_, ?_, ?_, own_fr own g1 ?_, ?_, st.hL, st.hLR, st.hRV⟩
  · rw [World.frozen?_setCell, World.frozen?_setCell, f.frozen st.cr (by simp <;> omega)]; exact st.zr
  · rw [World.cell?_setCell_other _ _ _ _ (by simp <;> omega)]; exact World.cell?_setCell_same _ _ _ cv4
  · rw [World.frozen?_setCell, World.frozen?_setCell, f.frozen st.cv (by simp)]; exact st.zv
  · intro q hq h
    have := (own.lt q hq).1
    omega
  · have hs := st.bl.size
    have hLw := st.hL
    have hc := lt_of_cell st.cv
    simp only at hc
    exact Fr.below (Fr.below st.bl f hs (by intro k hk; omega)) g1 (by have := f.size; omega) (by intro k hk; omega)

set_option maxHeartbeats 1000000 in
set_option maxRecDepth 100000 in
theorem packReads_walk (s : ByteArray) (al : Option Addr) (cl : Nat) (l : List Int) (W : World) (hs : s.size ≤ 9223372036854775807) (hl : SlA W al l.length cl (l.map (Value.int .i64))) (hr : ∀ x ∈ l, -9223372036854775808 ≤ x ∧ x ≤ 9223372036854775807) :
    Calls Try.prog 9 #[.string s, .slice al l.length cl] W fun e w' => e = .returned (.bool true) ∧ Below W.heap.size W w' := by
  have hmf : ∀ (fn : Fn) (first cap : Array Value) (w : World), (Instr.makeFunc fn first cap).run Try.prog w = .ok (.func fn first cap) w := fun _ _ _ _ => rfl
  obtain ⟨i0, hi1, hi2, hi3, hi4⟩ := info_parts Try.infostr
  have hl1 := hl.le
  have hl2 := hl.max
  obtain ⟨l', hm1, hl', hl'2, hite, hmin⟩ := cut_list (Value.int .i64) W al cl l 12 12 rfl hl
  have hm3 : l'.length ≤ l.length := by rw [hl']; simp; omega
  have hr' : ∀ x ∈ l', -9223372036854775808 ≤ x ∧ x ≤ 9223372036854775807 := fun x hx => hr x (by rw [hl'] at hx; exact List.mem_of_mem_take hx)
  obtain ⟨m, hms, hm100, hitem, hminm⟩ : ∃ m : Nat, m ≤ s.size ∧ m ≤ 100 ∧ (if (100 : Int) < (s.size : Int) then (100 : Int) else (s.size : Int)) = (m : Int) ∧ min (s.size : Int) 100 = (m : Int) :=
    ⟨min s.size 100, by omega, by omega, by split <;> omega, by omega⟩
  clear hl' hr hl
  obtain ⟨w1, hw1, hf1, hz1, b0⟩ : ∃ w1 : World, w1 = W.alloc (.cells #[.slice al l.length cl] 23) ∧ Fr (fun _ => False) W w1 ∧ w1.heap.size = W.heap.size + 1 ∧ w1.heap[W.heap.size]? = some (.cells #[.slice al l.length cl] 23) :=
    ⟨_, rfl, (Fr.refl _ W).alloc _, by simp, by rw [heap_alloc_if, if_pos rfl]⟩
  have HL := Lib.hid hl'2; clear hl'2
  have HR := Lib.hid hr'; clear hr'
  have HB1 : Hid (Below W.heap.size W w1) := Fr.below (Below.refl _ W) hf1 (Nat.le_refl _) (fun k hk => hk.elim)
  have c0 : w1.cell? ⟨W.heap.size, 0, none⟩ = some (.slice al l.length cl) := by rw [World.cell?, b0]; rfl
  have z0 : w1.frozen? ⟨W.heap.size, 0, none⟩ = false := by rw [World.frozen?, b0]; rfl
  clear b0 hf1
  go_enter Try.func9, Try.ntmps9
  go_wp2_with fail
  rw [← hw1]
  refine (speaks01 w1).mono ?_
  rintro e w2 ⟨rfl, hb2⟩
  have hs2 := hb2.size
  have c2 : w2.cell? ⟨W.heap.size, 0, none⟩ = some (.slice al l.length cl) := (hb2.cell (by simp <;> omega)).trans c0
  have z2 : w2.frozen? ⟨W.heap.size, 0, none⟩ = false := by rw [World.frozen?_of_block (w := w1) (hb2.block _ (by simp <;> omega))]; exact z0
  have HB2 := Lib.hid (HB1.out.trans (hb2.mono (by omega)))
  clear c0 z0 hb2 HB1 hw1
  go_wp2_with fail
  go_region
  obtain ⟨t0, ht0, hts⟩ : ∃ t0, s.extract 0 m = t0 ∧ t0.size ≤ 100 := ⟨_, rfl, by simp; omega⟩
  rw [ht0]
  obtain ⟨w3, hw3⟩ : ∃ w3, w3 = (w2.setCell ⟨W.heap.size, 0, none⟩ (.slice al l'.length cl)).drew := ⟨_, rfl⟩
  rw [← hw3]
  have c3 : w3.cell? ⟨W.heap.size, 0, none⟩ = some (.slice al l'.length cl) := by rw [hw3, World.cell?_drew]; exact World.cell?_setCell_same _ _ _ c2
  have HB3 : Hid (Below W.heap.size W w3) := by rw [hw3]; exact (HB2.out.setCell (p := ⟨W.heap.size, 0, none⟩) (by simp) _).drew
  have hlt3 := lt_of_cell c3
  simp only at hlt3
  clear hw3 c2 z2 HB2 hs2 hz1 ht0 hitem hminm hms hite hmin
  obtain ⟨w5, hw5, hs5, st5⟩ : ∃ w5, w5 = (w3.alloc (.cells #[.string t0] 9)).alloc (.cells #[.slice none 0 0] 31) ∧ w5.heap.size = w3.heap.size + 2 ∧ RdSt W W.heap.size w3.heap.size (w3.heap.size + 1) al cl l' w5 t0 (.slice none 0 0) [] := by
    have e3 : ∀ k, k < w3.heap.size → ((w3.alloc (.cells #[.string t0] 9)).alloc (.cells #[.slice none 0 0] 31)).heap[k]? = w3.heap[k]? := by
      intro k hk
      rw [heap_alloc_if, if_neg (by simp <;> omega), heap_alloc_if, if_neg (by omega)]
    have eR : ((w3.alloc (.cells #[.string t0] 9)).alloc (.cells #[.slice none 0 0] 31)).heap[w3.heap.size]? = some (.cells #[.string t0] 9) := by
      rw [heap_alloc_if, if_neg (by simp), heap_alloc_if, if_pos rfl]
    have eV : ((w3.alloc (.cells #[.string t0] 9)).alloc (.cells #[.slice none 0 0] 31)).heap[w3.heap.size + 1]? = some (.cells #[.slice none 0 0] 31) := by
      rw [heap_alloc_if, if_pos (by simp)]
    refine ⟨_, rfl, by simp, ⟨by rw [World.cell?_of_block (w := w3) (e3 _ hlt3)]; exact c3, by rw [World.cell?, eR]; rfl, by rw [World.frozen?, eR]; rfl, by rw [World.cell?, eV]; rfl, by rw [World.frozen?, eV]; rfl, World.ownsRow_nil _ _ _ _, ?_, Nat.le_refl _, by omega, by omega⟩⟩
    exact (HB3.out.alloc (by omega) _).alloc (by simp <;> omega) _
  have ST5 := Lib.hid st5; clear st5 c3
  go_upto_block 0 with fail
  rw [← hw5]
  go_cut [6, 8, 9, 10] from 27 to 92 (fun bv iv sv av wr => bv = .int .i64 (reads l' t0).2.1 ∧ ∃ v, RdSt W W.heap.size w3.heap.size (w3.heap.size + 1) al cl l' wr (reads l' t0).2.2 v (reads l' t0).1)
  case first =>
    go_wp2_with fail
    go_loopw [6, 8, 9, 10] (fun bv iv sv av wr => ∃ (i : Nat) (rest : ByteArray) (v : Value) (want : List ByteArray), bv = .int .i64 0 ∧ iv = .int .i64 i ∧ i ≤ l'.length ∧ rest.size ≤ 100 ∧ want.length ≤ i ∧ RdSt W W.heap.size w3.heap.size (w3.heap.size + 1) al cl l' wr rest v want ∧
      reads l' t0 = (want ++ (reads (l'.drop i) rest).1, (reads (l'.drop i) rest).2)) (fun _ iv _ _ _ => l'.length - (intOf iv).toNat)
    case atStart => exact ⟨0, t0, _, [], rfl, rfl, Nat.zero_le _, hts, Nat.le_refl _, ST5.out, rfl⟩
    case round =>
      obtain ⟨i, rest, v, want, rfl, rfl, hi0, hrs, hwl, st, hrd⟩ := hrel
      have q1 := st.cl
      have q2 := st.cr
      have q3 := st.cv
      by_cases hi : i < l'.length
      · obtain ⟨g, o, rfl, hc⟩ := (HL.out.below st.bl (Nat.le_refl _)).cell i (.int .i64 l'[i]) (by simp [hi])
        have hrg := HR.out _ (List.getElem_mem hi)
        have hrg1 := hrg.1
        have hrg2 := hrg.2
        rw [drop_act hi] at hrd
        have ST := Lib.hid st; clear st
        generalize l'[i] = a at *
        clear hrg
        by_cases h1 : a < 1
        · have hb : actBad a rest = 11 := by simp [actBad, h1]
          rw [reads_stop (by rw [hb]; decide), hb] at hrd
          have HRD : Hid (reads l' t0 = (want, 11, rest)) := Lib.hid (by rw [hrd]; simp)
          clear hrd hb
          go_wp2_with fail
          go_meet
          exact ⟨by rw [HRD.out], v, by rw [HRD.out]; exact ST.out⟩
        by_cases h9 : a = 9
        · subst h9
          by_cases h2 : rest.size < 1
          · have hb : actBad 9 rest = 2 := by unfold actBad; rw [if_neg (by decide), if_pos ⟨rfl, h2⟩]
            rw [reads_stop (by rw [hb]; decide), hb] at hrd
            have HRD : Hid (reads l' t0 = (want, 2, rest)) := Lib.hid (by rw [hrd]; simp)
            clear hrd hb
            go_wp2_with fail
            go_meet
            exact ⟨by rw [HRD.out], v, by rw [HRD.out]; exact ST.out⟩
          · go_wp2_with fail
            have h2' : 0 < rest.size := by omega
            obtain ⟨k, hk⟩ : ∃ k, rest[0].toNat = k := ⟨_, rfl⟩
            have hk256 : k < 256 := by rw [← hk]; exact rest[0].toNat_lt
            have hah : actAhead 9 = 1 := rfl
            have hsz : actSize 9 rest = k := by unfold actSize; rw [if_pos rfl, first_byte rest h2', hk]
            have hbad : actBad 9 rest = if (rest.size : Int) < 1 + (k : Int) then 2 else 0 := by rw [actBad_some (by decide) (by omega), hah, hsz]; rfl
            go_region
            have h1s : ¬ (rest.size : Int) < 1 := by omega
            by_cases h3 : (rest.size : Int) < 1 + (k : Int)
            · have hb : actBad 9 rest = 2 := by rw [hbad, if_pos h3]
              rw [reads_stop (by rw [hb]; decide), hb] at hrd
              have HRD : Hid (reads l' t0 = (want, 2, rest)) := Lib.hid (by rw [hrd]; simp)
              clear hrd hb hbad
              have h4 : (rest.size : Int) - 1 < (k : Int) := by omega
              clear h3
              go_wp2_with fail
              go_meet
              exact ⟨by rw [HRD.out], v, by rw [HRD.out]; exact ST.out.drew⟩
            · have hb : actBad 9 rest = 0 := by rw [hbad, if_neg h3]
              rw [reads_go hb] at hrd
              have hp : actPiece 9 rest = rest.extract 1 (1 + k) := by unfold actPiece; rw [hah, hsz]; rfl
              have hq : actRest 9 rest = rest.extract (1 + k) rest.size := by unfold actRest; rw [hah, hsz]; rfl
              rw [hp, hq] at hrd
              have HRD := Lib.hid hrd
              clear hrd hb hbad hp hq hah hsz
              have h4 : ¬ (rest.size : Int) - 1 < (k : Int) := by omega
              have h5 : 1 + k ≤ rest.size := by omega
              clear h3
              go_wp2_with fail
              obtain ⟨a7, c7, hv7, _, _, _⟩ := SlA.of_own ST.out.drew.own
              subst hv7
              have STd := Lib.hid ST.out.drew.drew
              haveI : Nonempty (WC (fun w => w.cell? ⟨w3.heap.size, 0, none⟩ = some (.string rest) ∧ w.cell? ⟨w3.heap.size + 1, 0, none⟩ = some (.slice a7 want.length c7))) := ⟨⟨_, STd.out.cr, STd.out.cv⟩⟩
              have y1 : ∀ z : WC (fun w => w.cell? ⟨w3.heap.size, 0, none⟩ = some (.string rest) ∧ w.cell? ⟨w3.heap.size + 1, 0, none⟩ = some (.slice a7 want.length c7)), z.val.cell? ⟨w3.heap.size, 0, none⟩ = some (.string rest) := fun z => z.ok.1
              have y2 : ∀ z : WC (fun w => w.cell? ⟨w3.heap.size, 0, none⟩ = some (.string rest) ∧ w.cell? ⟨w3.heap.size + 1, 0, none⟩ = some (.slice a7 want.length c7)), z.val.cell? ⟨w3.heap.size + 1, 0, none⟩ = some (.slice a7 want.length c7) := fun z => z.ok.2
              refine wp_region_last 9 [7, 8] [] (fun w' => ∃ z : WC (fun w => w.cell? ⟨w3.heap.size, 0, none⟩ = some (.string rest) ∧ w.cell? ⟨w3.heap.size + 1, 0, none⟩ = some (.slice a7 want.length c7)), w' = z.val) (by kernel_rfl) (by kernel_rfl) (fun c a w d v h => by cases d <;> exact h) (fun c a w d v h => by cases d <;> exact h) ⟨⟨_, STd.out.cr, STd.out.cv⟩, rfl⟩ ?_
              simp only [List.take]
              repeat (refine wpU_q (by rfl) (by rfl) ?_; go_big_quiet_step (fail); refine wpQuiet_nil ?_)
              refine wpU_e (by rfl) ?_
              go_wp2_with fail
              have g1 : Fr (fun _ => False) wr.drew.drew (wr.drew.drew.alloc (.cells #[.string (rest.extract 1 (1 + k))] 9)) := (Fr.refl _ _).alloc _
              refine ⟨⟨⟨_, g1.cell STd.out.cr (fun h => h), g1.cell STd.out.cv (fun h => h)⟩, rfl⟩, ?_⟩
              refine wpU_e (by rfl) ?_
              have hsz3 := lt_of_cell STd.out.cv
              simp only [World.size_drew] at hsz3
              go_wp2_with (at_builtin; refine wpList_append_own _ rfl _ _ 31 rfl (w3.heap.size + 1 + 1) 9 i0 (.string ByteArray.empty) 1 16 Try.underlying31 hi1 hi2 hi3 hi4 rfl (by decide) _ want.length (want.map Value.string) rfl (STd.out.own.alloc _) ⟨wr.drew.drew.heap.size, 0, none⟩ 1 1 [Value.string (rest.extract 1 (1 + k))] rfl rfl (news_one _ _ _) (one_one _ rfl) (by unfold maxLen; omega) (by omega) (by simp; omega) ?_)
              intro v4 w4 hown4 hgrow4 _
              have hf4 : Fr (fun k => w3.heap.size + 1 + 1 ≤ k) wr w4 := (((Fr.refl (fun k => w3.heap.size + 1 + 1 ≤ k) wr).alloc _).drew.drew).grown hgrow4 (by intro q hq; exact .inl (ST.out.own.lt q hq).1)
              obtain ⟨a4, c4, rfl, _, _, _⟩ := SlA.of_own hown4
              have cr4 := hf4.cell ST.out.cr (by simp; omega)
              have cv4 := hf4.cell ST.out.cv (by simp)
              have zr4 := (hf4.frozen ST.out.cr (by simp; omega)).trans ST.out.zr
              have zv4 := (hf4.frozen ST.out.cv (by simp)).trans ST.out.zv
              have hnx := ST.out.next (rest' := rest.extract (1 + k) rest.size) (want' := want ++ [rest.extract 1 (1 + k)]) hf4 (by simpa using hown4)
              have NX := Lib.hid hnx; clear hnx hown4 hgrow4
              go_wp2_with fail
              refine ⟨⟨⟨_, cr4, cv4⟩, rfl⟩, ?_⟩
              refine wpU_nil ?_
              simp only [lastQ, List.drop]
              clear y1 y2
              go_wp2_with fail
              go_roundw
              case rel =>
                exact ⟨i + 1, rest.extract (1 + k) rest.size, _, want ++ [rest.extract 1 (1 + k)], rfl, by go_num, by omega, by simp; omega, by simp; omega, NX.out, by rw [HRD.out]; simp⟩
              case measure => simp [intOf]; omega
        · by_cases h10 : 9 < a
          · obtain ⟨k, hka⟩ : ∃ k : Nat, a - 10 = (k : Int) := ⟨(a - 10).toNat, by omega⟩
            have hah : actAhead a = 0 := if_neg h9
            have hsz : actSize a rest = k := by unfold actSize; rw [if_neg h9, if_pos h10, hka]
            have hbad : actBad a rest = if (rest.size : Int) < 0 + (k : Int) then 2 else 0 := by rw [actBad_some h1 (by omega), hah, hsz]; rfl
            have h1s : ¬ (rest.size : Int) < 0 := by omega
            by_cases h3 : (rest.size : Int) < 0 + (k : Int)
            · have hb : actBad a rest = 2 := by rw [hbad, if_pos h3]
              rw [reads_stop (by rw [hb]; decide), hb] at hrd
              have HRD : Hid (reads l' t0 = (want, 2, rest)) := Lib.hid (by rw [hrd]; simp)
              clear hrd hb hbad
              have h4 : rest.size < k := by omega
              clear h3
              go_wp2_with fail
              go_meet
              exact ⟨by rw [HRD.out], v, by rw [HRD.out]; exact ST.out⟩
            · have hb : actBad a rest = 0 := by rw [hbad, if_neg h3]
              rw [reads_go hb] at hrd
              have hp : actPiece a rest = rest.extract 0 k := by unfold actPiece; rw [hah, hsz, Nat.zero_add]; rfl
              have hq : actRest a rest = rest.extract k rest.size := by unfold actRest; rw [hah, hsz, Nat.zero_add]; rfl
              rw [hp, hq] at hrd
              have HRD := Lib.hid hrd
              clear hrd hb hbad hp hq hah hsz
              have h4 : ¬ rest.size < k := by omega
              have h5 : k ≤ rest.size := by omega
              clear h3
              go_wp2_with fail
              obtain ⟨a7, c7, hv7, _, _, _⟩ := SlA.of_own ST.out.own
              subst hv7
              have STd := Lib.hid ST.out.drew
              haveI : Nonempty (WC (fun w => w.cell? ⟨w3.heap.size, 0, none⟩ = some (.string rest) ∧ w.cell? ⟨w3.heap.size + 1, 0, none⟩ = some (.slice a7 want.length c7))) := ⟨⟨_, STd.out.cr, STd.out.cv⟩⟩
              have y1 : ∀ z : WC (fun w => w.cell? ⟨w3.heap.size, 0, none⟩ = some (.string rest) ∧ w.cell? ⟨w3.heap.size + 1, 0, none⟩ = some (.slice a7 want.length c7)), z.val.cell? ⟨w3.heap.size, 0, none⟩ = some (.string rest) := fun z => z.ok.1
              have y2 : ∀ z : WC (fun w => w.cell? ⟨w3.heap.size, 0, none⟩ = some (.string rest) ∧ w.cell? ⟨w3.heap.size + 1, 0, none⟩ = some (.slice a7 want.length c7)), z.val.cell? ⟨w3.heap.size + 1, 0, none⟩ = some (.slice a7 want.length c7) := fun z => z.ok.2
              refine wp_region_last 9 [7, 8] [] (fun w' => ∃ z : WC (fun w => w.cell? ⟨w3.heap.size, 0, none⟩ = some (.string rest) ∧ w.cell? ⟨w3.heap.size + 1, 0, none⟩ = some (.slice a7 want.length c7)), w' = z.val) (by kernel_rfl) (by kernel_rfl) (fun c a w d v h => by cases d <;> exact h) (fun c a w d v h => by cases d <;> exact h) ⟨⟨_, STd.out.cr, STd.out.cv⟩, rfl⟩ ?_
              simp only [List.take]
              repeat (refine wpU_q (by rfl) (by rfl) ?_; go_big_quiet_step (fail); refine wpQuiet_nil ?_)
              refine wpU_e (by rfl) ?_
              go_wp2_with fail
              have g1 : Fr (fun _ => False) wr.drew (wr.drew.alloc (.cells #[.string (rest.extract 0 k)] 9)) := (Fr.refl _ _).alloc _
              refine ⟨⟨⟨_, g1.cell STd.out.cr (fun h => h), g1.cell STd.out.cv (fun h => h)⟩, rfl⟩, ?_⟩
              refine wpU_e (by rfl) ?_
              have hsz3 := lt_of_cell STd.out.cv
              simp only [World.size_drew] at hsz3
              go_wp2_with (at_builtin; refine wpList_append_own _ rfl _ _ 31 rfl (w3.heap.size + 1 + 1) 9 i0 (.string ByteArray.empty) 1 16 Try.underlying31 hi1 hi2 hi3 hi4 rfl (by decide) _ want.length (want.map Value.string) rfl (STd.out.own.alloc _) ⟨wr.drew.heap.size, 0, none⟩ 1 1 [Value.string (rest.extract 0 k)] rfl rfl (news_one _ _ _) (one_one _ rfl) (by unfold maxLen; omega) (by omega) (by simp; omega) ?_)
              intro v4 w4 hown4 hgrow4 _
              have hf4 : Fr (fun k => w3.heap.size + 1 + 1 ≤ k) wr w4 := (((Fr.refl (fun k => w3.heap.size + 1 + 1 ≤ k) wr).alloc _).drew).grown hgrow4 (by intro q hq; exact .inl (ST.out.own.lt q hq).1)
              obtain ⟨a4, c4, rfl, _, _, _⟩ := SlA.of_own hown4
              have cr4 := hf4.cell ST.out.cr (by simp; omega)
              have cv4 := hf4.cell ST.out.cv (by simp)
              have zr4 := (hf4.frozen ST.out.cr (by simp; omega)).trans ST.out.zr
              have zv4 := (hf4.frozen ST.out.cv (by simp)).trans ST.out.zv
              have hnx := ST.out.next (rest' := rest.extract k rest.size) (want' := want ++ [rest.extract 0 k]) hf4 (by simpa using hown4)
              have NX := Lib.hid hnx; clear hnx hown4 hgrow4
              go_wp2_with fail
              refine ⟨⟨⟨_, cr4, cv4⟩, rfl⟩, ?_⟩
              refine wpU_nil ?_
              simp only [lastQ, List.drop]
              clear y1 y2
              go_wp2_with fail
              go_roundw
              case rel =>
                exact ⟨i + 1, rest.extract k rest.size, _, want ++ [rest.extract 0 k], rfl, by go_num, by omega, by simp; omega, by simp; omega, NX.out, by rw [HRD.out]; simp⟩
              case measure => simp [intOf]; omega
          · obtain ⟨k, rfl⟩ : ∃ k : Nat, a = (k : Int) := ⟨a.toNat, by omega⟩
            have hah : actAhead (k : Int) = 0 := if_neg h9
            have hsz : actSize (k : Int) rest = k := by unfold actSize; rw [if_neg h9, if_neg h10]
            have hbad : actBad (k : Int) rest = if (rest.size : Int) < 0 + (k : Int) then 2 else 0 := by rw [actBad_some h1 (by omega), hah, hsz]; rfl
            have h1s : ¬ (rest.size : Int) < 0 := by omega
            by_cases h3 : (rest.size : Int) < 0 + (k : Int)
            · have hb : actBad (k : Int) rest = 2 := by rw [hbad, if_pos h3]
              rw [reads_stop (by rw [hb]; decide), hb] at hrd
              have HRD : Hid (reads l' t0 = (want, 2, rest)) := Lib.hid (by rw [hrd]; simp)
              clear hrd hb hbad
              have h4 : rest.size < k := by omega
              clear h3
              go_wp2_with fail
              go_meet
              exact ⟨by rw [HRD.out], v, by rw [HRD.out]; exact ST.out⟩
            · have hb : actBad (k : Int) rest = 0 := by rw [hbad, if_neg h3]
              rw [reads_go hb] at hrd
              have hp : actPiece (k : Int) rest = rest.extract 0 k := by unfold actPiece; rw [hah, hsz, Nat.zero_add]; rfl
              have hq : actRest (k : Int) rest = rest.extract k rest.size := by unfold actRest; rw [hah, hsz, Nat.zero_add]; rfl
              rw [hp, hq] at hrd
              have HRD := Lib.hid hrd
              clear hrd hb hbad hp hq hah hsz
              have h4 : ¬ rest.size < k := by omega
              have h5 : k ≤ rest.size := by omega
              clear h3
              go_wp2_with fail
              obtain ⟨a7, c7, hv7, _, _, _⟩ := SlA.of_own ST.out.own
              subst hv7
              have STd := Lib.hid ST.out.drew
              haveI : Nonempty (WC (fun w => w.cell? ⟨w3.heap.size, 0, none⟩ = some (.string rest) ∧ w.cell? ⟨w3.heap.size + 1, 0, none⟩ = some (.slice a7 want.length c7))) := ⟨⟨_, STd.out.cr, STd.out.cv⟩⟩
              have y1 : ∀ z : WC (fun w => w.cell? ⟨w3.heap.size, 0, none⟩ = some (.string rest) ∧ w.cell? ⟨w3.heap.size + 1, 0, none⟩ = some (.slice a7 want.length c7)), z.val.cell? ⟨w3.heap.size, 0, none⟩ = some (.string rest) := fun z => z.ok.1
              have y2 : ∀ z : WC (fun w => w.cell? ⟨w3.heap.size, 0, none⟩ = some (.string rest) ∧ w.cell? ⟨w3.heap.size + 1, 0, none⟩ = some (.slice a7 want.length c7)), z.val.cell? ⟨w3.heap.size + 1, 0, none⟩ = some (.slice a7 want.length c7) := fun z => z.ok.2
              refine wp_region_last 9 [7, 8] [] (fun w' => ∃ z : WC (fun w => w.cell? ⟨w3.heap.size, 0, none⟩ = some (.string rest) ∧ w.cell? ⟨w3.heap.size + 1, 0, none⟩ = some (.slice a7 want.length c7)), w' = z.val) (by kernel_rfl) (by kernel_rfl) (fun c a w d v h => by cases d <;> exact h) (fun c a w d v h => by cases d <;> exact h) ⟨⟨_, STd.out.cr, STd.out.cv⟩, rfl⟩ ?_
              simp only [List.take]
              repeat (refine wpU_q (by rfl) (by rfl) ?_; go_big_quiet_step (fail); refine wpQuiet_nil ?_)
              refine wpU_e (by rfl) ?_
              go_wp2_with fail
              have g1 : Fr (fun _ => False) wr.drew (wr.drew.alloc (.cells #[.string (rest.extract 0 k)] 9)) := (Fr.refl _ _).alloc _
              refine ⟨⟨⟨_, g1.cell STd.out.cr (fun h => h), g1.cell STd.out.cv (fun h => h)⟩, rfl⟩, ?_⟩
              refine wpU_e (by rfl) ?_
              have hsz3 := lt_of_cell STd.out.cv
              simp only [World.size_drew] at hsz3
              go_wp2_with (at_builtin; refine wpList_append_own _ rfl _ _ 31 rfl (w3.heap.size + 1 + 1) 9 i0 (.string ByteArray.empty) 1 16 Try.underlying31 hi1 hi2 hi3 hi4 rfl (by decide) _ want.length (want.map Value.string) rfl (STd.out.own.alloc _) ⟨wr.drew.heap.size, 0, none⟩ 1 1 [Value.string (rest.extract 0 k)] rfl rfl (news_one _ _ _) (one_one _ rfl) (by unfold maxLen; omega) (by omega) (by simp; omega) ?_)
              intro v4 w4 hown4 hgrow4 _
              have hf4 : Fr (fun k => w3.heap.size + 1 + 1 ≤ k) wr w4 := (((Fr.refl (fun k => w3.heap.size + 1 + 1 ≤ k) wr).alloc _).drew).grown hgrow4 (by intro q hq; exact .inl (ST.out.own.lt q hq).1)
              obtain ⟨a4, c4, rfl, _, _, _⟩ := SlA.of_own hown4
              have cr4 := hf4.cell ST.out.cr (by simp; omega)
              have cv4 := hf4.cell ST.out.cv (by simp)
              have zr4 := (hf4.frozen ST.out.cr (by simp; omega)).trans ST.out.zr
              have zv4 := (hf4.frozen ST.out.cv (by simp)).trans ST.out.zv
              have hnx := ST.out.next (rest' := rest.extract k rest.size) (want' := want ++ [rest.extract 0 k]) hf4 (by simpa using hown4)
              have NX := Lib.hid hnx; clear hnx hown4 hgrow4
              go_wp2_with fail
              refine ⟨⟨⟨_, cr4, cv4⟩, rfl⟩, ?_⟩
              refine wpU_nil ?_
              simp only [lastQ, List.drop]
              clear y1 y2
              go_wp2_with fail
              go_roundw
              case rel =>
                exact ⟨i + 1, rest.extract k rest.size, _, want ++ [rest.extract 0 k], rfl, by go_num, by omega, by simp; omega, by simp; omega, NX.out, by rw [HRD.out]; simp⟩
              case measure => simp [intOf]; omega
      · have hin : i = l'.length := by omega
        subst hin
        have HRD : Hid (reads l' t0 = (want, 0, rest)) := Lib.hid (by rw [hrd]; simp [reads])
        have ST := Lib.hid st; clear st hrd
        go_wp2_with fail
        go_meet
        exact ⟨by rw [HRD.out], v, by rw [HRD.out]; exact ST.out⟩
  case rest =>
    obtain ⟨rfl, v7, hst⟩ := hcut
    obtain ⟨P, c, rest, hR⟩ : ∃ P c rest, reads l' t0 = (P, c, rest) := ⟨_, _, _, rfl⟩
    have hcb := reads_bad l' t0
    rw [hR] at hst hcb ⊢
    simp only at hst hcb ⊢
    obtain ⟨av, cv, hv7, hsv, hpv, _⟩ := SlA.of_own hst.own
    subst hv7
    have hVlt := lt_of_cell hst.cv
    simp only at hVlt
    have hbs := hst.bl.size
    have hWL := hst.hL
    obtain ⟨w6, hw6, hs6, F6, bN, bS⟩ : ∃ w6, w6 = (wc.alloc (.cells #[.int .i64 0] 3)).alloc (.cells #[.bool true] 4) ∧ w6.heap.size = wc.heap.size + 2 ∧ Fr (fun _ => False) wc w6 ∧
        w6.heap[wc.heap.size]? = some (.cells #[.int .i64 0] 3) ∧ w6.heap[wc.heap.size + 1]? = some (.cells #[.bool true] 4) := by
      refine ⟨_, rfl, by simp, ((Fr.refl _ wc).alloc _).alloc _, ?_, ?_⟩
      · rw [heap_alloc_if, if_neg (by simp), heap_alloc_if, if_pos rfl]
      · rw [heap_alloc_if, if_pos (by simp)]
    have hRead := packRead_any t0 39 #[.pointer (some ⟨W.heap.size, 0, none⟩), .pointer (some ⟨wc.heap.size + 1, 0, none⟩), .pointer (some ⟨wc.heap.size, 0, none⟩), .pointer (some ⟨w3.heap.size + 1, 0, none⟩), .pointer (some ⟨w3.heap.size, 0, none⟩)] w6
      (fun k => k = wc.heap.size + 1 ∨ k = wc.heap.size) (fun x w' => x = rdOut c rest ∧ w'.cell? ⟨wc.heap.size, 0, none⟩ = some (.int .i64 P.length) ∧ w'.cell? ⟨wc.heap.size + 1, 0, none⟩ = some (.bool true)) (by omega)
      (fun a w => enters_fn Try.func39 (by kernel_rfl) rfl _ w) (fun k h => by omega)
      (fun w hfw hrd => by
        have FW : Fr (fun k => wc.heap.size ≤ k) wc w := (F6.trans hfw (fun k h => h.elim)).mono (fun k _ h => h.elim)
        have FF : ∀ w', Fr (fun k => k = w6.heap.size + 1 ∨ k = wc.heap.size + 1 ∨ k = wc.heap.size) w w' → Fr (fun k => wc.heap.size ≤ k) wc w' := fun w' hf => FW.trans hf (by intro k hk; left; omega)
        have cN : w.cell? ⟨wc.heap.size, 0, none⟩ = some (.int .i64 0) := hfw.cell (by rw [World.cell?, bN]; rfl) (fun h => h)
        have zN : w.frozen? ⟨wc.heap.size, 0, none⟩ = false := by rw [hfw.frozen (v := .int .i64 0) (by rw [World.cell?, bN]; rfl) (fun h => h), World.frozen?, bN]; rfl
        have cS : w.cell? ⟨wc.heap.size + 1, 0, none⟩ = some (.bool true) := hfw.cell (by rw [World.cell?, bS]; rfl) (fun h => h)
        have zS : w.frozen? ⟨wc.heap.size + 1, 0, none⟩ = false := by rw [hfw.frozen (v := .bool true) (by rw [World.cell?, bS]; rfl) (fun h => h), World.frozen?, bS]; rfl
        refine (reads1_any (w6.heap.size + 1) W.heap.size (wc.heap.size + 1) wc.heap.size (w3.heap.size + 1) w3.heap.size al av cl cv l' P c rest t0 w ⟨hrd, cN, zN, cS, zS, Fr.refl _ _, by omega, by omega, by omega⟩ hR hts (FW.cell hst.cl (by simp; omega)) (FW.cell hst.cv (by simp; omega)) (FW.cell hst.cr (by simp; omega))
          (by omega) (by omega) (by omega) (fun w' hf => HL.out.below (Fr.below hst.bl (FF w' hf) hbs (by intro k hk; omega)) (Nat.le_refl _)) (fun w' hf => hsv.keep (FF w' hf) (by intro p hp; have := (hpv p hp).2.1; omega)) hm1 HR.out).mono ?_
        rintro e w' ⟨⟨hf, kN, kS⟩, hx⟩
        exact ⟨hf.mono (fun k _ hk => by unfold wS; omega), _, hx, rfl, kN, kS⟩)
    have HRead := Lib.hid hRead; clear hRead
    have V6 : Hid (w6.cell? ⟨w3.heap.size + 1, 0, none⟩ = some (.slice av P.length cv)) := F6.cell hst.cv (fun h => h)
    have HB6 : Hid (Below W.heap.size W w6) := Fr.below hst.bl F6 hbs (fun k h => h.elim)
    have hPl : P.length ≤ l'.length := by
      have := reads_length l' t0
      rw [hR] at this
      exact this
    have qR := hst.cr
    have qV := hst.cv
    clear bN bS F6 hst hsv hpv hbs
    by_cases hc : c = 0
    · subst hc
      clear hcb
      by_cases hz : rest.size = 0
      · have hz' : rest = ByteArray.empty := by
          apply ByteArray.ext; apply Array.eq_empty_of_size_eq_zero; exact hz
        subst hz'
        have hend : (rdOut 0 ByteArray.empty).ending = .returned (.int .i64 0) := by simp [rdOut, ROut.ending]
        have HE := Lib.hid hend; clear hend
        go_wp2_with fail
        rw [← hw6]
        refine HRead.out.mono ?_
        rintro e w7 ⟨w0, x, ⟨rfl, cN0, cS0⟩, he, hf2, hs0, hf3⟩
        rw [HE.out] at he
        subst he
        have k1 := hf2.cell cN0 (by simp; omega)
        have k2 := hf2.cell cS0 (by simp; omega)
        have k3 := hf3.cell V6.out (by intro h; simp at h; omega)
        have HB7 : Hid (Below W.heap.size W w7) := Fr.below HB6.out hf3 (by omega) (by intro k hk; omega)
        clear cN0 cS0 hf2 hf3
        go_wp2_with fail
        go_ret
        exact ⟨rfl, HB7.out⟩
      · have hq : rest.toList.isEmpty = false := by
          rw [ByteArray.toList_eq]
          cases hl : rest.data.toList with
          | nil => exact absurd (by rw [← ByteArray.size_data, ← Array.length_toList, hl]; rfl) hz
          | cons _ _ => rfl
        have hend : (rdOut 0 rest).ending = .returned (.int .i64 3) := by simp [rdOut, ROut.ending, hz]
        have HE := Lib.hid hend; clear hend
        go_wp2_with fail
        rw [← hw6]
        refine HRead.out.mono ?_
        rintro e w7 ⟨w0, x, ⟨rfl, cN0, cS0⟩, he, hf2, hs0, hf3⟩
        rw [HE.out] at he
        subst he
        have k1 := hf2.cell cN0 (by simp; omega)
        have k2 := hf2.cell cS0 (by simp; omega)
        have k3 := hf3.cell V6.out (by intro h; simp at h; omega)
        have HB7 : Hid (Below W.heap.size W w7) := Fr.below HB6.out hf3 (by omega) (by intro k hk; omega)
        clear cN0 cS0 hf2 hf3
        go_wp2_with fail
        go_ret
        exact ⟨rfl, HB7.out⟩
    · have hend : (rdOut c rest).ending = .returned (.int .i64 c) := by simp [rdOut, ROut.ending, hc]
      have HE := Lib.hid hend; clear hend
      go_wp2_with fail
      rw [← hw6]
      refine HRead.out.mono ?_
      rintro e w7 ⟨w0, x, ⟨rfl, cN0, cS0⟩, he, hf2, hs0, hf3⟩
      rw [HE.out] at he
      subst he
      have k1 := hf2.cell cN0 (by simp; omega)
      have k2 := hf2.cell cS0 (by simp; omega)
      have k3 := hf3.cell V6.out (by intro h; simp at h; omega)
      have HB7 : Hid (Below W.heap.size W w7) := Fr.below HB6.out hf3 (by omega) (by intro k hk; omega)
      clear cN0 cS0 hf2 hf3
      go_wp2_with fail
      go_ret
      exact ⟨rfl, HB7.out⟩
      
end Go.Proofs.Ytoniebocphjmgaa
