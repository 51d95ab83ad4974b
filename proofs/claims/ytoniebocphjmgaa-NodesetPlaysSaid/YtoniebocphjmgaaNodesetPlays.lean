/-
  The walk of NodesetPlays.
-/
import Derived.Test.YtoniebocphjmgaaSetS
import Derived.Deep.CutBlock
import Derived.Deep.CutRange
namespace Go.Proofs.Ytoniebocphjmgaa
open Go.RowKit Go.Proofs

theorem perm_has {L M : List Int} (h : L.Perm M) (n : Int) : has L n = has M n := by
  by_cases hn : n ∈ L
  · rw [(has_iff _ _).2 hn, (has_iff _ _).2 (h.mem_iff.1 hn)]
  · rw [(has_no _ _).2 hn, (has_no _ _).2 (fun h' => hn (h.mem_iff.2 h'))]
theorem perm_add {L M : List Int} (h : L.Perm M) (m n : Int) (h0 : has L n = false) (hok : sAddOk L m n = true) : (sAdd L m n).Perm (M ++ [n]) := by
  unfold sAddOk at hok
  rw [h0] at hok
  simp only [Bool.false_or, Bool.and_eq_true, decide_eq_true_eq] at hok
  unfold sAdd
  rw [if_neg (by rw [h0]; decide), if_pos ⟨hok.1.1, hok.1.2, hok.2⟩]
  exact ((ins_perm L n).trans (h.cons n)).trans (List.perm_append_comm (l₁ := [n]) (l₂ := M))
theorem add_same {L : List Int} {m n : Int} (h : has L n = true ∨ sAddOk L m n = false) : sAdd L m n = L := by
  unfold sAdd
  by_cases h0 : has L n = true
  · rw [if_pos h0]
  · rw [if_neg h0]
    have h1 := h.resolve_left h0
    unfold sAddOk at h1
    rw [eq_false_of_ne_true h0] at h1
    rw [if_neg]
    rintro ⟨a, b, c⟩
    rw [decide_eq_true a, decide_eq_true b, decide_eq_true c] at h1
    simp at h1
theorem perm_drop {L M : List Int} {m : Int} (g : Good L m) (h : L.Perm M) (n : Int) : (sDrop L n).Perm (M.filter (fun x => x != n)) := by
  rw [sDrop_eq g.up]; exact h.filter _
theorem perm_but {L M : List Int} (h : L.Perm M) (n : Int) : (but L [n, 5]).Perm (M.filter (fun x => x != n && x != 5)) := by
  have e : (fun x : Int => x != n && x != 5) = fun x => !has [n, 5] x := by
    funext x
    by_cases h1 : x = n
    · subst h1; simp [has]
    · by_cases h2 : x = 5
      · subst h2; simp [has]
      · have : has [n, 5] x = false := (has_no _ _).2 (by simp [h1, h2])
        simp [this, h1, h2]
  rw [e]; exact h.filter _
theorem but_le {L ks : List Int} {m : Int} (g : Good L m) : (but L ks).Pairwise (· ≤ ·) := g.le.filter _

/-- the set and the list of the law -/
structure PlSt (W : World) (kS : Nat) (size : Int) (w : World) (L M : List Int) (a : Option Addr) (c : Nat) (mv : Value) : Prop where
  bs : Box w kS (.slice a L.length c) (.int .i64 size)
  sa : SlA w a L.length c (ints L)
  na : ∀ p, a = some p → p.block ≠ kS
  g : Good L size
  pm : L.Perm M
  om : w.ownsRow (kS + 1) 3 1 mv M.length (ints M)
  fr : Gr W w

theorem pl_keep {W : World} {kS : Nat} {size : Int} {w w' : World} {L M : List Int} {a : Option Addr} {c : Nat} {mv : Value} (h : PlSt W kS size w L M a c mv) (f : Gr w w') : PlSt W kS size w' L M a c mv :=
  ⟨h.bs.keep f (fun h => h), h.sa.keep f (fun _ _ h => h), h.na, h.g, h.pm, own_fr h.om f (fun _ _ h => h), h.fr.trans f⟩

theorem pl_store {W : World} {kS : Nat} {size : Int} {w : World} {L M : List Int} {a : Option Addr} {c : Nat} {mv : Value} (h : PlSt W kS size w L M a c mv) (hW : W.heap.size ≤ kS) {L2 M2 : List Int} {a2 : Option Addr} {c2 : Nat} {mv2 : Value} (sa : SlA w a2 L2.length c2 (ints L2)) (na : ∀ p, a2 = some p → p.block ≠ kS) (g : Good L2 size) (pm : L2.Perm M2) (om : w.ownsRow (kS + 1) 3 1 mv2 M2.length (ints M2)) :
    PlSt W kS size ((w.setCell ⟨kS, 0, none⟩ (.slice a2 L2.length c2)).setCell ⟨kS, 1, none⟩ (.int .i64 size)) L2 M2 a2 c2 mv2 := by
  have fs := fr_set w kS (.slice a2 L2.length c2) (.int .i64 size)
  exact ⟨h.bs.set _ _, sa.keep fs (fun p hp => na p hp), na, g, pm, own_fr om fs (fun q hq hk => by have h1 := (om.lt q hq).1; have h2 : q = kS := hk; omega), Fr.trans h.fr fs (fun k hk => .inr (by have : k = kS := hk; omega))⟩

/-- pairs of numbers in memory -/
def Pairs (w : World) (a : Option Addr) (cap : Nat) (l : List (Int × Int)) : Prop :=
  l.length ≤ cap ∧ cap ≤ maxLen ∧ ∀ (i : Nat) (p : Int × Int), l[i]? = some p → ∃ b o, a = some ⟨b, o, none⟩ ∧ w.cell? ⟨b, o + i * 2, none⟩ = some (.int .i64 p.1) ∧ w.cell? ⟨b, o + i * 2 + 1, none⟩ = some (.int .i64 p.2)

theorem pl_fresh {W : World} {kS : Nat} {size : Int} {w4 w6 : World} {L M L2 : List Int} {a a2 : Option Addr} {c c2 b6 : Nat} {mv : Value} {n : Int} (hWS : W.heap.size ≤ kS) (h : PlSt W kS size w6 L M a c mv) (F : Gr w4 w6)
    (S6 : SlA w6 a2 L2.length c2 (ints L2)) (B6 : Box w6 b6 (.slice a2 L2.length c2) (.int .i64 size)) (N5 : ∀ p, a2 = some p → p.block ≠ kS) (hG : Good L2 size) (hP : L2.Perm (M ++ [n])) {v2 : Value} {w9 : World}
    (ho : w9.ownsRow (kS + 1) 3 1 v2 (M.length + 1) (ints M ++ [.int .i64 n])) (hf : Gr w6 w9) :
    (PlSt W kS size ((w9.setCell ⟨kS, 0, none⟩ (.slice a2 L2.length c2)).setCell ⟨kS, 1, none⟩ (.int .i64 size)) L2 (M ++ [n]) a2 c2 v2 ∧ Fr (fun k => k = kS) w4 ((w9.setCell ⟨kS, 0, none⟩ (.slice a2 L2.length c2)).setCell ⟨kS, 1, none⟩ (.int .i64 size))) ∧
      w9.cell? ⟨b6, 0, none⟩ = some (.slice a2 L2.length c2) ∧ w9.cell? ⟨b6, 1, none⟩ = some (.int .i64 size) ∧ w9.cell? ⟨kS, 0, none⟩ = some (.slice a L.length c) ∧ w9.cell? ⟨kS, 1, none⟩ = some (.int .i64 size) ∧ w9.frozen? ⟨kS, 0, none⟩ = false ∧ w9.frozen? ⟨kS, 1, none⟩ = false := by
  have b := B6.keep hf (fun h => h)
  have s := h.bs.keep hf (fun h => h)
  refine ⟨⟨pl_store (pl_keep h hf) hWS (S6.keep hf (fun _ _ h => h)) N5 hG hP (by simpa [ints] using ho), Fr.trans (Fr.mono (T := fun k => k = kS) (Gr.trans F hf) (fun _ _ h => h.elim)) (fr_set w9 kS (.slice a2 L2.length c2) (.int .i64 size)) (fun k hk => .inl hk)⟩, b.c0, b.c1, s.c0, s.c1, s.z 0, s.z 1⟩

theorem sla_none {w : World} {n c : Nat} {M : List Int} (h : SlA w none n c (ints M)) : M = [] := by
  cases M with
  | nil => rfl
  | cons x r => obtain ⟨b, o, e, _⟩ := h.cell 0 (.int .i64 x) rfl; cases e
theorem own_none {w : World} {base : Nat} {e : TypeId} {size n c : Nat} {cs : List Value} (h : w.ownsRow base e size (.slice none n c) n cs) : c = 0 := by
  rcases h.2 with ⟨h', _⟩ | ⟨g, cap, cur, hv, _⟩
  · cases h'; rfl
  · cases hv
theorem own_some {w : World} {base : Nat} {e : TypeId} {size n : Nat} {cs : List Value} {v : Value} (h : w.ownsRow base e size v n cs) (hne : ¬ v = .slice none 0 0) : ∃ g1 cap1, v = .slice (some ⟨g1, 0, none⟩) n cap1 ∧ base ≤ g1 := by
  rcases h.2 with ⟨h', _⟩ | ⟨g1, cap, cur, hv, hb, _⟩
  · exact absurd h' hne
  · exact ⟨g1, cap, hv, hb⟩
theorem sla_two {w : World} {a : Option Addr} {n c : Nat} {M : List Int} (h : SlA w a n c (ints M)) (ad : Addr) (ha : a = some ad) (z : Array Value) : ∀ j u, (ints M)[j]? = some u → (w.alloc (.cells z 3)).cell? (ad.add j) = some u := by
  intro j u hj
  obtain ⟨b', o', e, hc⟩ := h.cell j u hj
  rw [ha] at e
  cases e
  rw [Addr.add_lit, World.cell?_alloc_old _ _ _ (Nat.ne_of_lt (lt_of_cell hc))]; exact hc
theorem news_two (w : World) (o : Obj) (v : Value) (e : TypeId) : ∀ j u, [v][j]? = some u → ((w.alloc o).alloc (.cells #[v] e)).cell? ((⟨w.heap.size + 1, 0, none⟩ : Addr).add j) = some u := by
  intro j u hj
  have := news_one (w.alloc o) v e j u hj
  rwa [World.size_alloc] at this

set_option maxHeartbeats 4000000 in
set_option maxRecDepth 100000 in
theorem nodesetPlays_walk (most : Int) (a : Option Addr) (cap : Nat) (l : List (Int × Int)) (W : World) (hl : Pairs W a cap l) :
    Calls Try.prog 13 #[.int .i64 most, .slice a l.length cap] W fun e w' => e = .returned (.bool true) ∧ Gr W w' := by
  obtain ⟨hl1, hl2, hl3⟩ := hl
  obtain ⟨i0, hi, hz0, hz1, hz2⟩ := info_parts Try.infoint
  obtain ⟨size, hsz⟩ : ∃ s, s = min (max most 0) 64 := ⟨_, rfl⟩
  have hg : Good [] size := Good.nil (by omega) (by omega)
  have hsz0 : 0 ≤ size := by omega
  have hsz64 : size ≤ 64 := by omega
  have HG := Lib.hid hg
  have HL := Lib.hid hl3
  have HS := Lib.hid hsz
  clear hl3 hsz hg
  go_enter Try.func13, Try.ntmps13
  go_wp2_with fail
  refine (speaks03_any W).mono ?_
  rintro e w1 ⟨rfl, f1⟩
  have F1 := Lib.hid f1; clear f1
  go_wp2_with fail
  refine (setNew_any most _).mono ?_
  rintro e w2 ⟨rfl, f2⟩
  have F2 := Lib.hid (F1.out.trans f2); clear f2
  rw [← HS.out]
  go_wp2_with fail
  rw [← HS.out]
  obtain ⟨kS, hkS⟩ : ∃ k, k = w2.heap.size := ⟨_, rfl⟩
  have hst : PlSt W kS size (w2.alloc (.cells #[.slice none 0 0, .int .i64 size] 80)) [] [] none 0 (.slice none 0 0) := by
    subst hkS
    exact {
      bs := box_new _ _ _ _
      sa := SlA.nil _
      na := fun p hp => by cases hp
      g := HG.out
      pm := List.Perm.refl _
      om := World.ownsRow_nil _ _ _ _
      fr := F2.out.trans (gr_alloc _ _) }
  have hWS : W.heap.size ≤ kS := by rw [hkS]; exact F2.out.size
  have HST := Lib.hid hst
  rw [← hkS]
  clear hst hkS F1 F2 HS HG
  go_loopw [7, 8, 9, 10, 11, 12, 13, 14, 15, 16, 17, 18, 19, 20, 21] (fun mv iv _ _ _ _ _ _ _ _ _ _ _ _ _ wr => ∃ (i : Nat) (L M : List Int) (aa : Option Addr) (ca : Nat), iv = .int .i64 i ∧ i ≤ l.length ∧ i ≤ 90 ∧ PlSt W kS size wr L M aa ca mv) (fun _ iv _ _ _ _ _ _ _ _ _ _ _ _ _ _ => l.length - (intOf iv).toNat)
  case atStart => exact ⟨0, [], [], none, 0, rfl, Nat.zero_le _, Nat.zero_le _, HST.out⟩
  case round =>
    obtain ⟨i, L, M, aa, ca, rfl, hil, hi9, hst⟩ := hrel
    clear HST
    have ST := Lib.hid hst; clear hst
    by_cases hlt : i < l.length ∧ i < 90
    · obtain ⟨h1, h2⟩ := hlt
      obtain ⟨b, o, rfl, hc0, hc1⟩ := HL.out i l[i] (List.getElem?_eq_getElem h1)
      have k0 := ST.out.fr.cell hc0 (fun h => h)
      have k1 := ST.out.fr.cell hc1 (fun h => h)
      clear hc0 hc1
      generalize l[i] = pr at *
      obtain ⟨x, n⟩ := pr
      simp only at k0 k1
      have hd9 : decide ((i : Int) < 90) = true := by simp; omega
      obtain ⟨ma, mc, rfl, hms, hmp, _⟩ := SlA.of_own ST.out.om
      have HMS := Lib.hid hms
      have HMP : Hid (∀ p, ma = some p → kS + 1 ≤ p.block) := Lib.hid (fun p hp => (hmp p hp).1)
      clear hms hmp
      go_upto_region 10 with fail
      go_cut [10, 11] from 44 to 46 (fun ov wv wx => ∃ ko wa wc', ov = .pointer (some ⟨ko, 0, none⟩) ∧ wv = .slice wa L.length wc' ∧ wr.heap.size ≤ ko ∧ Box wx ko (.slice aa L.length ca) (.int .i64 size) ∧ SlA wx wa L.length wc' (ints L) ∧ (∀ p, wa = some p → p.block ≠ kS) ∧ Gr wr wx)
      case first =>
        have i0 := ST.out.bs.c0
        have i1 := ST.out.bs.c1
        haveI : Nonempty (WC (Fr (fun _ => False) wr)) := ⟨⟨wr, Fr.refl _ _⟩⟩
        have y0 : ∀ z : WC (Fr (fun _ => False) wr), z.val.cell? ⟨kS, 0, none⟩ = some (.slice aa L.length ca) := fun z => z.ok.cell i0 (fun h => h)
        have y1 : ∀ z : WC (Fr (fun _ => False) wr), z.val.cell? ⟨kS, 1, none⟩ = some (.int .i64 size) := fun z => z.ok.cell i1 (fun h => h)
        refine wp_region_plan [2, 3, 4] (Plan.seq [0, 1] (.fork 2 3 (Plan.seq [3, 4, 5] .done) (Plan.seq [2, 4, 5] .done))) (fun w' => ∃ z : WC (Fr (fun _ => False) wr), w' = z.val) (by kernel_rfl) (by kernel_rfl) (fun c a w d v h => by cases d <;> exact h) (fun c a w d v h => by cases d <;> exact h) ⟨⟨wr.drew, (Fr.refl _ _).drew⟩, rfl⟩ ?_
        simp only [Plan.seq, List.foldr]
        repeat (refine wpV_q (by simp only [List.getElem?_toArray, List.getElem?_cons_succ, List.getElem?_cons_zero] <;> rfl) (by rfl) (by rfl) ?_; go_big_quiet_step (fail); refine wpQuiet_nil ?_)
        refine wpV_fork (by simp only [List.getElem?_toArray, List.getElem?_cons_succ, List.getElem?_cons_zero] <;> rfl) (by simp only [List.getElem?_toArray, List.getElem?_cons_succ, List.getElem?_cons_zero] <;> rfl) ?_ ?_
        · go_wp2_with fail
          refine (setAll_any aa ca L size _ (ST.out.sa.keep (Fr.refl (fun _ => False) wr).drew (fun _ _ h => h)) ST.out.g).mono ?_
          rintro e w3 ⟨v, rfl, ho, hb⟩
          obtain ⟨a3, c3, rfl, h3, h3p, -⟩ := SlA.of_own ho
          have HN3 : Hid (∀ p, a3 = some p → p.block ≠ kS) := Lib.hid (fun p hp => by
            have h1 := (h3p p hp).1
            have h2 := ST.out.bs.lt
            simp at h1; omega)
          clear h3p
          have f3 : Gr wr w3 := Fr.trans ((Fr.refl (fun _ => False) wr).drew) (Gr.of_below hb) (fun _ h => h.elim)
          clear ho hb
          have H3 := Lib.hid h3; clear h3
          go_wp2_with fail
          refine ⟨⟨⟨w3, f3⟩, rfl⟩, ?_⟩
          refine wpV_e (by simp only [List.getElem?_toArray, List.getElem?_cons_succ, List.getElem?_cons_zero] <;> rfl) (by rfl) ?_
          go_wp2_with fail
          refine ⟨⟨⟨_, f3.alloc _⟩, rfl⟩, ?_⟩
          refine wpV_e (by simp only [List.getElem?_toArray, List.getElem?_cons_succ, List.getElem?_cons_zero] <;> rfl) (by rfl) ?_
          go_wp2_with fail
          have f4 := f3.alloc (.cells #[.slice aa L.length ca, .int .i64 size] 80)
          refine ⟨⟨⟨_, f4⟩, rfl⟩, ?_⟩
          repeat (refine wpV_q (by simp only [List.getElem?_toArray, List.getElem?_cons_succ, List.getElem?_cons_zero] <;> rfl) (by rfl) (by rfl) ?_; go_big_quiet_step (fail); refine wpQuiet_nil ?_)
          refine wpV_done ?_
          have b4 := Lib.hid (box_new w3 (.slice aa L.length ca) (.int .i64 size) 80)
          have H4 := Lib.hid (H3.out.keep (gr_alloc w3 (.cells #[.slice aa L.length ca, .int .i64 size] 80)) (fun _ _ h => h))
          have F4 := Lib.hid f4
          have hk := f3.size
          clear y0 y1 i0 i1 f3 f4 H3
          go_wp2_with fail
          go_meet
          exact ⟨_, _, _, rfl, rfl, hk, b4.out, H4.out, HN3.out, F4.out⟩
        · go_wp2_with fail
          have hb0 := box_new wr.drew (.slice none 0 0) (.int .i64 0) 80
          have hf0 := (Fr.refl (fun _ => False) wr).drew.alloc (.cells #[.slice none 0 0, .int .i64 0] 80)
          refine ⟨⟨⟨_, hf0⟩, rfl⟩, ?_⟩
          refine wpV_e (by simp only [List.getElem?_toArray, List.getElem?_cons_succ, List.getElem?_cons_zero] <;> rfl) (by rfl) ?_
          go_wp2_with fail
          refine (setAll_any aa ca L size _ (ST.out.sa.keep hf0 (fun _ _ h => h)) ST.out.g).mono ?_
          rintro e w3 ⟨v, rfl, ho, hb⟩
          obtain ⟨a3, c3, rfl, h3, h3p, _⟩ := SlA.of_own ho
          have g3 := Gr.of_below hb
          have hb2 : Box w3 wr.heap.size (.slice none 0 0) (.int .i64 0) := hb0.keep g3 (fun h => h)
          have f3 : Gr wr w3 := Fr.trans hf0 g3 (fun _ h => h.elim)
          have j0 := hb2.c0
          have j1 := hb2.c1
          have z0 := hb2.z 0
          have z1 := hb2.z 1
          have fs := fr_set w3 wr.heap.size (.slice aa L.length ca) (.int .i64 size)
          have f4 : Gr wr _ := Fr.trans f3 fs (fun k hk => .inr (by have : k = wr.heap.size := hk; omega))
          have F4 := Lib.hid f4
          have H4 := Lib.hid (h3.keep fs (fun p hp hk => by
            have hk : p.block = wr.heap.size := hk
            have := (h3p p hp).1; simp at this; omega))
          have B4 := Lib.hid (hb2.set (.slice aa L.length ca) (.int .i64 size))
          have HN3 : Hid (∀ p, a3 = some p → p.block ≠ kS) := Lib.hid (fun p hp => by
            have h1 := (h3p p hp).1
            have h2 := ST.out.bs.lt
            simp at h1; omega)
          clear ho hb h3 h3p g3 fs f4 hb2
          go_wp2_with fail
          refine ⟨⟨⟨w3, f3⟩, rfl⟩, ?_⟩
          refine wpV_e (by simp only [List.getElem?_toArray, List.getElem?_cons_succ, List.getElem?_cons_zero] <;> rfl) (by rfl) ?_
          go_wp2_with fail
          refine ⟨⟨⟨_, F4.out⟩, rfl⟩, ?_⟩
          repeat (refine wpV_q (by simp only [List.getElem?_toArray, List.getElem?_cons_succ, List.getElem?_cons_zero] <;> rfl) (by rfl) (by rfl) ?_; go_big_quiet_step (fail); refine wpQuiet_nil ?_)
          refine wpV_done ?_
          clear y0 y1 i0 i1 j0 j1 z0 z1 f3 hb0 hf0
          go_wp2_with fail
          go_meet
          exact ⟨_, _, _, rfl, rfl, Nat.le_refl _, B4.out, H4.out, HN3.out, F4.out⟩
      case rest =>
        obtain ⟨ko, wa, wc', rfl, rfl, hko, hbo, hsw, hnw, hfx⟩ := hcut
        have q0 := hfx.cell k0 (fun h => h)
        have ST1 := Lib.hid (pl_keep ST.out hfx)
        have HKO := Lib.hid (show kS < ko by have := ST.out.bs.lt; omega)
        have BO := Lib.hid hbo
        have SW := Lib.hid hsw
        clear k0 k1 ST hfx hbo hsw hko HMS hd9
        have i0 := ST1.out.bs.c0
        have i1 := ST1.out.bs.c1
        generalize wc = w4 at *
        clear wr
        have HNW := Lib.hid hnw; clear hnw
        go_upto_block 2 with fail
        generalize bits BinOp.and IntKind.i64 x 3 = z
        go_cut [7, 12, 13, 14, 15, 16, 17, 18, 19, 20, 21] from 53 to 162 (fun mv _ _ _ _ _ _ _ _ _ _ wx => ∃ (L' M' : List Int) (aa' : Option Addr) (ca' : Nat), PlSt W kS size wx L' M' aa' ca' mv ∧ Fr (fun k => k = kS) w4 wx)
        case first =>
          cases ez0 : (z == 0)
          · cases ez3 : (z == 3)
            · cases ez1 : (z == 1)
              · have hpb := Lib.hid (perm_but ST1.out.pm n)
                have hlb := Lib.hid (but_le (ks := [n, 5]) ST1.out.g)
                go_wp2_with fail
                have hM64 : M.length ≤ 64 := by have := ST1.out.g.len; have := ST1.out.pm.length_eq; omega
                obtain ⟨ma2, mc2, hmv, hms, -⟩ := SlA.of_own ST1.out.om
                simp only [Value.slice.injEq, true_and] at hmv
                obtain ⟨rfl, rfl⟩ := hmv
                have HM := Lib.hid hms; clear hms
                clear i0 i1 q0
                go_loopw [20, 21] (fun rv kv wr => ∃ k : Nat, kv = .int .i64 k ∧ k ≤ M.length ∧ wr.ownsRow w4.heap.size 3 1 rv (kept (fun x => !(x != n && x != 5)) (M.take k)).length (ints (kept (fun x => !(x != n && x != 5)) (M.take k))) ∧ Gr w4 wr) (fun _ kv _ => M.length - (intOf kv).toNat)
                case atStart => exact ⟨0, rfl, Nat.zero_le _, World.ownsRow_nil _ _ _ _, Fr.refl _ _⟩
                case round =>
                  obtain ⟨k, rfl, hk, hO, hfr⟩ := hrel
                  by_cases hkl : k < M.length
                  · have hks := kept_snoc (fun x => !(x != n && x != 5)) M k hkl
                    obtain ⟨bm, om, rfl, hcm⟩ := (HM.out.keep hfr (fun _ _ h => h)).int k hkl
                    have hRl : (kept (fun x => !(x != n && x != 5)) (M.take k)).length ≤ 64 := Nat.le_trans (List.length_filter_le _ _) (by simp; omega)
                    have HO := Lib.hid hO; clear hO
                    have HFR := Lib.hid hfr; clear hfr
                    have hsz := HFR.out.size
                    by_cases he : M[k] = n
                    · have hne : (M[k] != n) = false := by simpa using he
                      have HKS : Hid (kept (fun x => !(x != n && x != 5)) (M.take (k + 1)) = kept (fun x => !(x != n && x != 5)) (M.take k)) := Lib.hid (by rw [hks, if_pos (by simp [he])])
                      clear hks he
                      go_wp2_with fail
                      go_roundw
                      case rel => exact ⟨k + 1, by go_num, by omega, by rw [HKS.out]; exact HO.out, HFR.out⟩
                      case measure => simp [intOf]; omega
                    · by_cases he5 : M[k] = 5
                      · have hne : (M[k] != n) = true := by simpa using he
                        have hne5 : (M[k] != 5) = false := by simpa using he5
                        have HKS : Hid (kept (fun x => !(x != n && x != 5)) (M.take (k + 1)) = kept (fun x => !(x != n && x != 5)) (M.take k)) := Lib.hid (by rw [hks, if_pos (by simp [he5])])
                        clear hks he he5
                        go_wp2_with fail
                        go_roundw
                        case rel => exact ⟨k + 1, by go_num, by omega, by rw [HKS.out]; exact HO.out, HFR.out⟩
                        case measure => simp [intOf]; omega
                      · have hne : (M[k] != n) = true := by simpa using he
                        have hne5 : (M[k] != 5) = true := by simpa using he5
                        have HKS : Hid (kept (fun x => !(x != n && x != 5)) (M.take (k + 1)) = kept (fun x => !(x != n && x != 5)) (M.take k) ++ [M[k]]) := Lib.hid (by rw [hks, if_neg (by simp [he, he5])])
                        clear hks he he5
                        generalize kept (fun x => !(x != n && x != 5)) (M.take k) = R at *
                        generalize M[k] = y at *
                        go_wp2_with (at_builtin; refine wpList_append_own _ rfl _ _ 23 rfl w4.heap.size 3 i0 (.int .i64 0) 1 8 Try.underlying23 hi hz0 hz1 hz2 rfl (by decide) _ _ _ rfl (HO.out.alloc _) ⟨wr.heap.size, 0, none⟩ 1 1 [.int .i64 y] rfl rfl (news_one _ _ _) (one_one _ rfl) (by unfold maxLen; omega) (by omega) (by rw [World.size_alloc]; omega) ?_)
                        intro v1 w8 hown1 hgrow1 _
                        have hf8 : Gr w4 w8 := (HFR.out.alloc _).grown hgrow1 (fun q hq => .inr ((HO.out.lt q hq).1))
                        have HO1 := Lib.hid hown1
                        have HF8 := Lib.hid hf8
                        clear hown1 hgrow1 hf8
                        go_wp2_with fail
                        go_roundw
                        case rel => exact ⟨k + 1, by go_num, by omega, by rw [HKS.out]; simpa using HO1.out, HF8.out⟩
                        case measure => simp [intOf]; omega
                  · have hkM : kept (fun x => !(x != n && x != 5)) (M.take k) = M.filter (fun x => x != n && x != 5) := by rw [List.take_of_length_le (by omega)]; unfold kept; simp
                    rw [hkM] at hO
                    clear hkM
                    have hRl : (M.filter (fun x => x != n && x != 5)).length ≤ 64 := Nat.le_trans (List.length_filter_le _ _) (by omega)
                    generalize M.filter (fun x => x != n && x != 5) = R at *
                    have HO := Lib.hid hO; clear hO
                    have HFR := Lib.hid hfr; clear hfr
                    have bs := ST1.out.bs.keep HFR.out (fun h => h)
                    have x0 := bs.c0
                    have x1 := bs.c1
                    clear bs
                    go_wp2_with fail
                    have g1 := gr_alloc wr (.cells #[.int .i64 n, .int .i64 5] 3)
                    have hks2 : SlA (wr.alloc (.cells #[.int .i64 n, .int .i64 5] 3)) (some ⟨wr.heap.size, 0, none⟩) 2 2 (ints [n, 5]) :=
                      sla_blk (c := #[.int .i64 n, .int .i64 5]) (by rw [heap_alloc_if', if_pos rfl]) (fun j x h => by
                        match j, h with
                        | 0, h => simpa using h
                        | 1, h => simpa using h) (Nat.le_refl _) (by decide)
                    refine (setBut_any aa ca L size (some ⟨wr.heap.size, 0, none⟩) 2 [n, 5] _ (ST1.out.sa.keep (Gr.trans HFR.out g1) (fun _ _ h => h)) hks2 ST1.out.g).mono ?_
                    rintro e w5 ⟨a5, c5, rfl, h5, f5⟩
                    have f6 := Gr.trans g1 f5
                    have H5 := Lib.hid h5
                    have F6 := Lib.hid (Gr.trans HFR.out f6)
                    have HO6 := Lib.hid (own_fr HO.out f6 (fun _ _ h => h))
                    clear g1 hks2 h5 f5 f6 x0 x1
                    go_wp2_with fail
                    refine (refSorted_own w4.heap.size _ R (but L [n, 5]) w5 HO6.out hpb.out hlb.out (by omega)).mono ?_
                    rintro e w6 ⟨a6, c6, rfl, h6, f6⟩
                    have H5' := Lib.hid (H5.out.keep f6 (fun _ _ h => h))
                    have H6 := Lib.hid h6
                    have F7 := Lib.hid (Gr.trans F6.out f6)
                    clear h6 f6 H5 F6
                    go_wp2_with fail
                    refine (refSame_any a5 c5 (but L [n, 5]) a6 c6 (but L [n, 5]) _ H5'.out H6.out).mono ?_
                    rintro e w7 ⟨rfl, q7, rfl⟩
                    rw [(same_iff (but L [n, 5]) (but L [n, 5])).2 rfl]
                    have F8 := Lib.hid (F7.out.drewN q7)
                    go_wp2_with fail
                    go_meet
                    exact ⟨L, M, aa, ca, pl_keep ST1.out F8.out, Fr.mono (S := fun _ => False) F8.out (fun _ _ h => h.elim)⟩
              · have hpd := Lib.hid (perm_drop ST1.out.g ST1.out.pm n)
                have hgd := Lib.hid (ST1.out.g.drop n)
                have HAS := Lib.hid (perm_has ST1.out.pm n)
                have DR := Lib.hid (setDrop_any aa ca L size n w4 ST1.out.sa ST1.out.g)
                generalize sDrop L n = L2 at hpd hgd DR
                go_wp2_with fail
                refine DR.out.mono ?_
                rintro e w5 ⟨a2, c2, rfl, h5, f5, n5⟩
                have hk5 : kS < w4.heap.size := ST1.out.bs.lt
                have N5 : Hid (∀ p, a2 = some p → p.block ≠ kS) := Lib.hid (fun p hp => by
                  rcases n5 p hp with h | h
                  · exact ST1.out.na p h
                  · omega)
                rw [HAS.out]
                have f6 := Gr.trans f5 (gr_alloc w5 (.cells #[.slice a2 L2.length c2, .int .i64 size] 80))
                have ST6 := Lib.hid (pl_keep ST1.out f6)
                have S6 := Lib.hid (h5.keep (gr_alloc w5 (.cells #[.slice a2 L2.length c2, .int .i64 size] 80)) (fun _ _ h => h))
                have B6 := Lib.hid (box_new w5 (.slice a2 L2.length c2) (.int .i64 size) 80)
                have F6 := Lib.hid f6
                have hk6 : kS < w5.heap.size := Nat.lt_of_lt_of_le hk5 f5.size
                clear h5 f5 f6 n5 DR i0 i1 q0
                obtain ⟨ma2, mc2, hmv, hms, -⟩ := SlA.of_own ST6.out.om
                simp only [Value.slice.injEq, true_and] at hmv
                obtain ⟨rfl, rfl⟩ := hmv
                have HM := Lib.hid hms; clear hms
                go_wp2_with fail
                refine (refHas_any _ _ M n _ HM.out).mono ?_
                rintro e w7 ⟨rfl, rfl⟩
                generalize w5.alloc (.cells #[.slice a2 L2.length c2, .int .i64 size] 80) = w6 at *
                generalize has M n = hb at *
                have hbb : (hb != hb) = false := by cases hb <;> rfl
                go_wp2_with fail
                clear hbb
                have hM64 : M.length ≤ 64 := by have := ST1.out.g.len; have := ST1.out.pm.length_eq; omega
                go_loopw [18, 19] (fun rv kv wr => ∃ k : Nat, kv = .int .i64 k ∧ k ≤ M.length ∧ wr.ownsRow w6.heap.size 3 1 rv (kept (fun x => x == n) (M.take k)).length (ints (kept (fun x => x == n) (M.take k))) ∧ Gr w6 wr) (fun _ kv _ => M.length - (intOf kv).toNat)
                case atStart => exact ⟨0, rfl, Nat.zero_le _, World.ownsRow_nil _ _ _ _, Fr.refl _ _⟩
                case round =>
                  obtain ⟨k, rfl, hk, hO, hfr⟩ := hrel
                  by_cases hkl : k < M.length
                  · have hks := kept_snoc (fun x => x == n) M k hkl
                    obtain ⟨bm, om, rfl, hcm⟩ := (HM.out.keep hfr (fun _ _ h => h)).int k hkl
                    have hRl : (kept (fun x => x == n) (M.take k)).length ≤ 64 := Nat.le_trans (List.length_filter_le _ _) (by simp; omega)
                    have HO := Lib.hid hO; clear hO
                    have HFR := Lib.hid hfr; clear hfr
                    have hsz := HFR.out.size
                    by_cases he : M[k] = n
                    · have hne : (M[k] != n) = false := by simpa using he
                      have HKS : Hid (kept (fun x => x == n) (M.take (k + 1)) = kept (fun x => x == n) (M.take k)) := Lib.hid (by rw [hks, if_pos (by simpa using he)])
                      clear hks he
                      go_wp2_with fail
                      go_roundw
                      case rel => exact ⟨k + 1, by go_num, by omega, by rw [HKS.out]; exact HO.out, HFR.out⟩
                      case measure => simp [intOf]; omega
                    · have hne : (M[k] != n) = true := by simpa using he
                      have HKS : Hid (kept (fun x => x == n) (M.take (k + 1)) = kept (fun x => x == n) (M.take k) ++ [M[k]]) := Lib.hid (by rw [hks, if_neg (by simpa using he)])
                      clear hks he
                      generalize kept (fun x => x == n) (M.take k) = R at *
                      generalize M[k] = y at *
                      go_wp2_with (at_builtin; refine wpList_append_own _ rfl _ _ 23 rfl w6.heap.size 3 i0 (.int .i64 0) 1 8 Try.underlying23 hi hz0 hz1 hz2 rfl (by decide) _ _ _ rfl (HO.out.alloc _) ⟨wr.heap.size, 0, none⟩ 1 1 [.int .i64 y] rfl rfl (news_one _ _ _) (one_one _ rfl) (by unfold maxLen; omega) (by omega) (by rw [World.size_alloc]; omega) ?_)
                      intro v1 w8 hown1 hgrow1 _
                      have hf8 : Gr w6 w8 := (HFR.out.alloc _).grown hgrow1 (fun q hq => .inr ((HO.out.lt q hq).1))
                      have HO1 := Lib.hid hown1
                      have HF8 := Lib.hid hf8
                      clear hown1 hgrow1 hf8
                      go_wp2_with fail
                      go_roundw
                      case rel => exact ⟨k + 1, by go_num, by omega, by rw [HKS.out]; simpa using HO1.out, HF8.out⟩
                      case measure => simp [intOf]; omega
                  · have hkM : kept (fun x => x == n) (M.take k) = M.filter (fun x => x != n) := by rw [List.take_of_length_le (by omega)]; rfl
                    rw [hkM] at hO
                    clear hkM
                    generalize M.filter (fun x => x != n) = R at *
                    have HO := Lib.hid hO; clear hO
                    have HFR := Lib.hid hfr; clear hfr
                    have bs := ST6.out.bs.keep HFR.out (fun h => h)
                    have b8 := B6.out.keep HFR.out (fun h => h)
                    have u0 := b8.c0
                    have u1 := b8.c1
                    have x0 := bs.c0
                    have x1 := bs.c1
                    have z0 := bs.z 0
                    have z1 := bs.z 1
                    have BS := Lib.hid bs; clear bs b8
                    go_wp2_with fail
                    go_region
                    have fs := fr_set wr kS (.slice a2 L2.length c2) (.int .i64 size)
                    have fin : PlSt W kS size (((wr.setCell ⟨kS, 0, none⟩ (.slice a2 L2.length c2)).setCell ⟨kS, 1, none⟩ (.int .i64 size)).drew) L2 R a2 c2 _ := {
                      bs := BS.out.set _ _
                      sa := ((S6.out.keep HFR.out (fun _ _ h => h)).keep fs (fun p hp => N5.out p hp)).drewN 1
                      na := N5.out
                      g := hgd.out
                      pm := hpd.out
                      om := own_fr (own_base HO.out (show kS + 1 ≤ w6.heap.size by have := B6.out.lt; omega)) fs.drew (fun q hq hk => by
                        have h1 := (HO.out.lt q hq).1
                        have h2 : q = kS := hk
                        have := B6.out.lt
                        omega)
                      fr := (Fr.trans (Fr.trans ST1.out.fr (Gr.trans F6.out HFR.out) (fun _ h => h.elim)) fs (fun k hk => .inr (by have : k = kS := hk; omega))).drew }
                    have FIN := Lib.hid fin; clear fin
                    have FS : Hid (Fr (fun k => k = kS) w4 _) := Lib.hid (((Fr.mono (S := fun _ => False) (Gr.trans F6.out HFR.out) (fun _ _ h => h.elim)).trans fs (fun k hk => .inl hk)).drew)
                    clear fs u0 u1 x0 x1 z0 z1
                    go_wp2_with fail
                    go_meet
                    exact ⟨L2, R, a2, c2, FIN.out, FS.out⟩
            · have HAS := Lib.hid (perm_has ST1.out.pm n)
              have hM64 : M.length ≤ 64 := by have := ST1.out.g.len; have := ST1.out.pm.length_eq; omega
              have HLM : Hid (L.length = M.length) := Lib.hid ST1.out.pm.length_eq
              have DR := Lib.hid (setAdd_any aa ca L size n w4 ST1.out.sa ST1.out.g)
              have hk5 : kS < w4.heap.size := ST1.out.bs.lt
              go_wp2_with fail
              refine DR.out.mono ?_
              rintro e w5 ⟨a2, c2, rfl, h5, f5, n5⟩
              have N5 : Hid (∀ p, a2 = some p → p.block ≠ kS) := Lib.hid (fun p hp => by
                rcases n5 p hp with h | h
                · exact ST1.out.na p h
                · omega)
              have f6 := Gr.trans f5 (gr_alloc w5 (.cells #[.slice a2 (sAdd L size n).length c2, .int .i64 size] 80))
              have ST6 := Lib.hid (pl_keep ST1.out f6)
              have S6 := Lib.hid (h5.keep (gr_alloc w5 (.cells #[.slice a2 (sAdd L size n).length c2, .int .i64 size] 80)) (fun _ _ h => h))
              have B6 := Lib.hid (box_new w5 (.slice a2 (sAdd L size n).length c2) (.int .i64 size) 80)
              have F6 := Lib.hid f6
              clear h5 f5 f6 n5 DR i0 i1 q0
              obtain ⟨ma2, mc2, hmv, hms, -⟩ := SlA.of_own ST6.out.om
              simp only [Value.slice.injEq, true_and] at hmv
              obtain ⟨rfl, rfl⟩ := hmv
              have HM := Lib.hid hms; clear hms
              go_wp2_with fail
              refine (refHas_any _ _ M n _ HM.out).mono ?_
              rintro e w7 ⟨rfl, rfl⟩
              generalize w5.alloc (.cells #[.slice a2 (sAdd L size n).length c2, .int .i64 size] 80) = w6 at *
              go_upto_region 24 with fail
              by_cases hm : has M n = true
              · have hA : sAddOk L size n = true := by unfold sAddOk; rw [HAS.out, hm]; rfl
                have hB : sAdd L size n = L := add_same (.inl (by rw [HAS.out]; exact hm))
                rw [hA, hm]
                rw [hB] at S6 B6 ⊢
                have B6b := Lib.hid B6.out
                have u0 := B6.out.c0
                have u1 := B6.out.c1
                have x0 := ST6.out.bs.c0
                have x1 := ST6.out.bs.c1
                have z0 := ST6.out.bs.z 0
                have z1 := ST6.out.bs.z 1
                have FIN := Lib.hid (pl_store ST6.out hWS S6.out N5.out ST6.out.g ST6.out.pm ST6.out.om)
                have FS := Lib.hid (Fr.trans (Fr.mono (T := fun k => k = kS) F6.out (fun _ _ h => h.elim)) (fr_set w6 kS (.slice a2 L.length c2) (.int .i64 size)) (fun k hk => .inl hk))
                clear hA hB hm
                go_wp2_with fail
                go_meet
                exact ⟨L, M, a2, c2, FIN.out, FS.out⟩
              · have hm : has M n = false := eq_false_of_ne_true hm
                have hD : sAddOk L size n = (decide (1 ≤ n) && decide (n ≤ 65535) && decide ((M.length : Int) < size)) := by unfold sAddOk; rw [HAS.out, hm, HLM.out]; rfl
                by_cases h1 : 1 ≤ n
                · have d1 : decide (1 ≤ n) = true := by simpa using h1
                  by_cases h2 : n ≤ 65535
                  · have d2 : decide (n ≤ 65535) = true := by simpa using h2
                    by_cases h3 : (M.length : Int) < size
                    · have d3 : decide ((M.length : Int) < size) = true := by simpa using h3
                      have hA : sAddOk L size n = true := by rw [hD, d1, d2, d3]; rfl
                      have hP := perm_add ST6.out.pm size n (by rw [HAS.out]; exact hm) hA
                      have hG := ST6.out.g.add n
                      rw [hA, hm]
                      clear hD d3 hA
                      generalize sAdd L size n = L2 at *
                      have hk6 : kS + 1 ≤ w6.heap.size := Nat.le_trans hk5 F6.out.size
                      have KEY := Lib.hid (fun v2 w9 ho hf => pl_fresh hWS ST6.out F6.out S6.out B6.out N5.out hG hP (v2 := v2) (w9 := w9) ho hf)
                      clear hP hG
                      have HM2 := Lib.hid (sla_two HM.out)
                      have hle := HM.out.le
                      have hM65 : M.length ≤ 63 := by omega
                      cases ma with
                      | none =>
                        obtain rfl : M = [] := sla_none HM.out
                        have hmc : mc = 0 := own_none ST6.out.om
                        subst hmc
                        have d0 : (0 : Int) < size := by simpa using h3
                        have d0b : decide ((0 : Int) < size) = true := by simpa using d0
                        go_wp2_with (at_builtin; refine wpList_append_own _ rfl _ _ 23 rfl (kS + 1) 3 i0 (.int .i64 0) 1 8 Try.underlying23 hi hz0 hz1 hz2 rfl (by decide) _ _ _ rfl ((own_empty w6 _ _ hk6).alloc _) ⟨w6.heap.size + 1, 0, none⟩ 1 1 [.int .i64 n] rfl rfl (news_two w6 _ _ _) (one_one _ rfl) (by unfold maxLen; omega) (by omega) (by simp; omega) ?_)
                        intro v2 w9 ho2 hg2 _
                        obtain ⟨FIN, x0, x1, y0, y1, y2, y3⟩ := KEY.out v2 w9 (by simpa using ho2) (((gr_alloc w6 _).alloc _).grown hg2 (fun q hq => by simp [Value.ownBlock] at hq; exact .inr (by omega)))
                        have FIN := Lib.hid FIN
                        clear hg2 ho2
                        go_wp2_with fail
                        go_meet
                        exact ⟨L2, _, a2, c2, FIN.out⟩
                      | some ad =>
                        go_wp2_with (at_builtin; refine wpList_append_own _ rfl _ _ 23 rfl w6.heap.size 3 i0 (.int .i64 0) 1 8 Try.underlying23 hi hz0 hz1 hz2 rfl (by decide) _ _ _ rfl (own_empty w6 _ _ (Nat.le_refl _)) ad M.length mc (ints M) rfl (by simp [ints]) (HM2.out ad rfl #[]) (one_map _ M (fun _ => rfl)) (by unfold maxLen; omega) (by omega) (by rw [World.size_alloc]; omega) ?_)
                        intro v1 w8 ho1 hg1 hiff
                        have f8 : Gr w6 w8 := (gr_alloc w6 _).grown hg1 (fun q hq => by simp [Value.ownBlock] at hq; exact .inr (by omega))
                        obtain ⟨g1, cap1, rfl, hB1⟩ := own_some ho1 hiff
                        have HO1 := Lib.hid ho1
                        have hs8 := f8.size
                        have F8 := Lib.hid f8
                        clear ho1 hg1 hiff f8
                        go_wp2_with (at_builtin; refine wpList_append_own _ rfl _ _ 23 rfl w6.heap.size 3 i0 (.int .i64 0) 1 8 Try.underlying23 hi hz0 hz1 hz2 rfl (by decide) _ _ _ rfl (HO1.out.alloc _) ⟨w8.heap.size, 0, none⟩ 1 1 [.int .i64 n] rfl rfl (news_one _ _ _) (one_one _ rfl) (by unfold maxLen; omega) (by omega) (by rw [World.size_alloc]; omega) ?_)
                        intro v2 w9 ho2 hg2 _
                        obtain ⟨FIN, x0, x1, y0, y1, y2, y3⟩ := KEY.out v2 w9 (own_base ho2 hk6) ((F8.out.alloc _).grown hg2 (fun q hq => by simp [Value.ownBlock] at hq; exact .inr (by omega)))
                        have FIN := Lib.hid FIN
                        clear hg2 ho2
                        go_wp2_with fail
                        go_meet
                        exact ⟨L2, _, a2, c2, FIN.out⟩
                    · have d3 : decide ((M.length : Int) < size) = false := by simpa using h3
                      have hA : sAddOk L size n = false := by rw [hD, d1, d2, d3]; rfl
                      have hB : sAdd L size n = L := add_same (.inr hA)
                      rw [hA, hm]
                      rw [hB] at S6 B6 ⊢
                      have u0 := B6.out.c0
                      have u1 := B6.out.c1
                      have x0 := ST6.out.bs.c0
                      have x1 := ST6.out.bs.c1
                      have z0 := ST6.out.bs.z 0
                      have z1 := ST6.out.bs.z 1
                      have FIN := Lib.hid (pl_store ST6.out hWS S6.out N5.out ST6.out.g ST6.out.pm ST6.out.om)
                      have FS := Lib.hid (Fr.trans (Fr.mono (T := fun k => k = kS) F6.out (fun _ _ h => h.elim)) (fr_set w6 kS (.slice a2 L.length c2) (.int .i64 size)) (fun k hk => .inl hk))
                      clear hA hB hm hD
                      go_wp2_with fail
                      go_meet
                      exact ⟨L, M, a2, c2, FIN.out, FS.out⟩
                  · have d2 : decide (n ≤ 65535) = false := by simpa using h2
                    have hA : sAddOk L size n = false := by rw [hD, d1, d2]; rfl
                    have hB : sAdd L size n = L := add_same (.inr hA)
                    rw [hA, hm]
                    rw [hB] at S6 B6 ⊢
                    have u0 := B6.out.c0
                    have u1 := B6.out.c1
                    have x0 := ST6.out.bs.c0
                    have x1 := ST6.out.bs.c1
                    have z0 := ST6.out.bs.z 0
                    have z1 := ST6.out.bs.z 1
                    have FIN := Lib.hid (pl_store ST6.out hWS S6.out N5.out ST6.out.g ST6.out.pm ST6.out.om)
                    have FS := Lib.hid (Fr.trans (Fr.mono (T := fun k => k = kS) F6.out (fun _ _ h => h.elim)) (fr_set w6 kS (.slice a2 L.length c2) (.int .i64 size)) (fun k hk => .inl hk))
                    clear hA hB hm hD
                    go_wp2_with fail
                    go_meet
                    exact ⟨L, M, a2, c2, FIN.out, FS.out⟩
                · have d1 : decide (1 ≤ n) = false := by simpa using h1
                  have hA : sAddOk L size n = false := by rw [hD, d1]; rfl
                  have hB : sAdd L size n = L := add_same (.inr hA)
                  rw [hA, hm]
                  rw [hB] at S6 B6 ⊢
                  have u0 := B6.out.c0
                  have u1 := B6.out.c1
                  have x0 := ST6.out.bs.c0
                  have x1 := ST6.out.bs.c1
                  have z0 := ST6.out.bs.z 0
                  have z1 := ST6.out.bs.z 1
                  have FIN := Lib.hid (pl_store ST6.out hWS S6.out N5.out ST6.out.g ST6.out.pm ST6.out.om)
                  have FS := Lib.hid (Fr.trans (Fr.mono (T := fun k => k = kS) F6.out (fun _ _ h => h.elim)) (fr_set w6 kS (.slice a2 L.length c2) (.int .i64 size)) (fun k hk => .inl hk))
                  clear hA hB hm hD
                  go_wp2_with fail
                  go_meet
                  exact ⟨L, M, a2, c2, FIN.out, FS.out⟩
          · have HAS := Lib.hid (perm_has ST1.out.pm n)
            have hM64 : M.length ≤ 64 := by have := ST1.out.g.len; have := ST1.out.pm.length_eq; omega
            have HLM : Hid (L.length = M.length) := Lib.hid ST1.out.pm.length_eq
            have DR := Lib.hid (setAdd_any aa ca L size n w4 ST1.out.sa ST1.out.g)
            have hk5 : kS < w4.heap.size := ST1.out.bs.lt
            go_wp2_with fail
            refine DR.out.mono ?_
            rintro e w5 ⟨a2, c2, rfl, h5, f5, n5⟩
            have N5 : Hid (∀ p, a2 = some p → p.block ≠ kS) := Lib.hid (fun p hp => by
              rcases n5 p hp with h | h
              · exact ST1.out.na p h
              · omega)
            have f6 := Gr.trans f5 (gr_alloc w5 (.cells #[.slice a2 (sAdd L size n).length c2, .int .i64 size] 80))
            have ST6 := Lib.hid (pl_keep ST1.out f6)
            have S6 := Lib.hid (h5.keep (gr_alloc w5 (.cells #[.slice a2 (sAdd L size n).length c2, .int .i64 size] 80)) (fun _ _ h => h))
            have B6 := Lib.hid (box_new w5 (.slice a2 (sAdd L size n).length c2) (.int .i64 size) 80)
            have F6 := Lib.hid f6
            clear h5 f5 f6 n5 DR i0 i1 q0
            obtain ⟨ma2, mc2, hmv, hms, -⟩ := SlA.of_own ST6.out.om
            simp only [Value.slice.injEq, true_and] at hmv
            obtain ⟨rfl, rfl⟩ := hmv
            have HM := Lib.hid hms; clear hms
            go_wp2_with fail
            refine (refHas_any _ _ M n _ HM.out).mono ?_
            rintro e w7 ⟨rfl, rfl⟩
            generalize w5.alloc (.cells #[.slice a2 (sAdd L size n).length c2, .int .i64 size] 80) = w6 at *
            go_upto_region 24 with fail
            by_cases hm : has M n = true
            · have hA : sAddOk L size n = true := by unfold sAddOk; rw [HAS.out, hm]; rfl
              have hB : sAdd L size n = L := add_same (.inl (by rw [HAS.out]; exact hm))
              rw [hA, hm]
              rw [hB] at S6 B6 ⊢
              have B6b := Lib.hid B6.out
              have u0 := B6.out.c0
              have u1 := B6.out.c1
              have x0 := ST6.out.bs.c0
              have x1 := ST6.out.bs.c1
              have z0 := ST6.out.bs.z 0
              have z1 := ST6.out.bs.z 1
              have FIN := Lib.hid (pl_store ST6.out hWS S6.out N5.out ST6.out.g ST6.out.pm ST6.out.om)
              have FS := Lib.hid (Fr.trans (Fr.mono (T := fun k => k = kS) F6.out (fun _ _ h => h.elim)) (fr_set w6 kS (.slice a2 L.length c2) (.int .i64 size)) (fun k hk => .inl hk))
              clear hA hB hm
              go_wp2_with fail
              go_meet
              exact ⟨L, M, a2, c2, FIN.out, FS.out⟩
            · have hm : has M n = false := eq_false_of_ne_true hm
              have hD : sAddOk L size n = (decide (1 ≤ n) && decide (n ≤ 65535) && decide ((M.length : Int) < size)) := by unfold sAddOk; rw [HAS.out, hm, HLM.out]; rfl
              by_cases h1 : 1 ≤ n
              · have d1 : decide (1 ≤ n) = true := by simpa using h1
                by_cases h2 : n ≤ 65535
                · have d2 : decide (n ≤ 65535) = true := by simpa using h2
                  by_cases h3 : (M.length : Int) < size
                  · have d3 : decide ((M.length : Int) < size) = true := by simpa using h3
                    have hA : sAddOk L size n = true := by rw [hD, d1, d2, d3]; rfl
                    have hP := perm_add ST6.out.pm size n (by rw [HAS.out]; exact hm) hA
                    have hG := ST6.out.g.add n
                    rw [hA, hm]
                    clear hD d3 hA
                    generalize sAdd L size n = L2 at *
                    have hk6 : kS + 1 ≤ w6.heap.size := Nat.le_trans hk5 F6.out.size
                    have KEY := Lib.hid (fun v2 w9 ho hf => pl_fresh hWS ST6.out F6.out S6.out B6.out N5.out hG hP (v2 := v2) (w9 := w9) ho hf)
                    clear hP hG
                    have HM2 := Lib.hid (sla_two HM.out)
                    have hle := HM.out.le
                    have hM65 : M.length ≤ 63 := by omega
                    cases ma with
                    | none =>
                      obtain rfl : M = [] := sla_none HM.out
                      have hmc : mc = 0 := own_none ST6.out.om
                      subst hmc
                      have d0 : (0 : Int) < size := by simpa using h3
                      have d0b : decide ((0 : Int) < size) = true := by simpa using d0
                      go_wp2_with (at_builtin; refine wpList_append_own _ rfl _ _ 23 rfl (kS + 1) 3 i0 (.int .i64 0) 1 8 Try.underlying23 hi hz0 hz1 hz2 rfl (by decide) _ _ _ rfl ((own_empty w6 _ _ hk6).alloc _) ⟨w6.heap.size + 1, 0, none⟩ 1 1 [.int .i64 n] rfl rfl (news_two w6 _ _ _) (one_one _ rfl) (by unfold maxLen; omega) (by omega) (by simp; omega) ?_)
                      intro v2 w9 ho2 hg2 _
                      obtain ⟨FIN, x0, x1, y0, y1, y2, y3⟩ := KEY.out v2 w9 (by simpa using ho2) (((gr_alloc w6 _).alloc _).grown hg2 (fun q hq => by simp [Value.ownBlock] at hq; exact .inr (by omega)))
                      have FIN := Lib.hid FIN
                      clear hg2 ho2
                      go_wp2_with fail
                      go_meet
                      exact ⟨L2, _, a2, c2, FIN.out⟩
                    | some ad =>
                      go_wp2_with (at_builtin; refine wpList_append_own _ rfl _ _ 23 rfl w6.heap.size 3 i0 (.int .i64 0) 1 8 Try.underlying23 hi hz0 hz1 hz2 rfl (by decide) _ _ _ rfl (own_empty w6 _ _ (Nat.le_refl _)) ad M.length mc (ints M) rfl (by simp [ints]) (HM2.out ad rfl #[]) (one_map _ M (fun _ => rfl)) (by unfold maxLen; omega) (by omega) (by rw [World.size_alloc]; omega) ?_)
                      intro v1 w8 ho1 hg1 hiff
                      have f8 : Gr w6 w8 := (gr_alloc w6 _).grown hg1 (fun q hq => by simp [Value.ownBlock] at hq; exact .inr (by omega))
                      obtain ⟨g1, cap1, rfl, hB1⟩ := own_some ho1 hiff
                      have HO1 := Lib.hid ho1
                      have hs8 := f8.size
                      have F8 := Lib.hid f8
                      clear ho1 hg1 hiff f8
                      go_wp2_with (at_builtin; refine wpList_append_own _ rfl _ _ 23 rfl w6.heap.size 3 i0 (.int .i64 0) 1 8 Try.underlying23 hi hz0 hz1 hz2 rfl (by decide) _ _ _ rfl (HO1.out.alloc _) ⟨w8.heap.size, 0, none⟩ 1 1 [.int .i64 n] rfl rfl (news_one _ _ _) (one_one _ rfl) (by unfold maxLen; omega) (by omega) (by rw [World.size_alloc]; omega) ?_)
                      intro v2 w9 ho2 hg2 _
                      obtain ⟨FIN, x0, x1, y0, y1, y2, y3⟩ := KEY.out v2 w9 (own_base ho2 hk6) ((F8.out.alloc _).grown hg2 (fun q hq => by simp [Value.ownBlock] at hq; exact .inr (by omega)))
                      have FIN := Lib.hid FIN
                      clear hg2 ho2
                      go_wp2_with fail
                      go_meet
                      exact ⟨L2, _, a2, c2, FIN.out⟩
                  · have d3 : decide ((M.length : Int) < size) = false := by simpa using h3
                    have hA : sAddOk L size n = false := by rw [hD, d1, d2, d3]; rfl
                    have hB : sAdd L size n = L := add_same (.inr hA)
                    rw [hA, hm]
                    rw [hB] at S6 B6 ⊢
                    have u0 := B6.out.c0
                    have u1 := B6.out.c1
                    have x0 := ST6.out.bs.c0
                    have x1 := ST6.out.bs.c1
                    have z0 := ST6.out.bs.z 0
                    have z1 := ST6.out.bs.z 1
                    have FIN := Lib.hid (pl_store ST6.out hWS S6.out N5.out ST6.out.g ST6.out.pm ST6.out.om)
                    have FS := Lib.hid (Fr.trans (Fr.mono (T := fun k => k = kS) F6.out (fun _ _ h => h.elim)) (fr_set w6 kS (.slice a2 L.length c2) (.int .i64 size)) (fun k hk => .inl hk))
                    clear hA hB hm hD
                    go_wp2_with fail
                    go_meet
                    exact ⟨L, M, a2, c2, FIN.out, FS.out⟩
                · have d2 : decide (n ≤ 65535) = false := by simpa using h2
                  have hA : sAddOk L size n = false := by rw [hD, d1, d2]; rfl
                  have hB : sAdd L size n = L := add_same (.inr hA)
                  rw [hA, hm]
                  rw [hB] at S6 B6 ⊢
                  have u0 := B6.out.c0
                  have u1 := B6.out.c1
                  have x0 := ST6.out.bs.c0
                  have x1 := ST6.out.bs.c1
                  have z0 := ST6.out.bs.z 0
                  have z1 := ST6.out.bs.z 1
                  have FIN := Lib.hid (pl_store ST6.out hWS S6.out N5.out ST6.out.g ST6.out.pm ST6.out.om)
                  have FS := Lib.hid (Fr.trans (Fr.mono (T := fun k => k = kS) F6.out (fun _ _ h => h.elim)) (fr_set w6 kS (.slice a2 L.length c2) (.int .i64 size)) (fun k hk => .inl hk))
                  clear hA hB hm hD
                  go_wp2_with fail
                  go_meet
                  exact ⟨L, M, a2, c2, FIN.out, FS.out⟩
              · have d1 : decide (1 ≤ n) = false := by simpa using h1
                have hA : sAddOk L size n = false := by rw [hD, d1]; rfl
                have hB : sAdd L size n = L := add_same (.inr hA)
                rw [hA, hm]
                rw [hB] at S6 B6 ⊢
                have u0 := B6.out.c0
                have u1 := B6.out.c1
                have x0 := ST6.out.bs.c0
                have x1 := ST6.out.bs.c1
                have z0 := ST6.out.bs.z 0
                have z1 := ST6.out.bs.z 1
                have FIN := Lib.hid (pl_store ST6.out hWS S6.out N5.out ST6.out.g ST6.out.pm ST6.out.om)
                have FS := Lib.hid (Fr.trans (Fr.mono (T := fun k => k = kS) F6.out (fun _ _ h => h.elim)) (fr_set w6 kS (.slice a2 L.length c2) (.int .i64 size)) (fun k hk => .inl hk))
                clear hA hB hm hD
                go_wp2_with fail
                go_meet
                exact ⟨L, M, a2, c2, FIN.out, FS.out⟩
        case rest =>
          obtain ⟨L', M', aa', ca', hst, hfr⟩ := hcut
          have BO' := Lib.hid (BO.out.keep hfr (show ¬ ko = kS by have := HKO.out; omega))
          have SW' := Lib.hid (SW.out.keep hfr (fun p hp => HNW.out p hp))
          have HAS := Lib.hid (perm_has hst.pm n)
          have HLN : Hid (L'.length = M'.length) := Lib.hid hst.pm.length_eq
          obtain ⟨ma', mc', hmv, -, -⟩ := SlA.of_own hst.om
          have j0 := hst.bs.c0
          have j1 := hst.bs.c1
          have hm64 : L'.length ≤ 64 := hst.g.len
          have ST' := Lib.hid hst
          have OA := Lib.hid (ST1.out.sa.keep hfr (fun p hp => ST1.out.na p hp))
          have OG := Lib.hid ST1.out.g
          clear i0 i1 q0 BO SW HNW ST1 hfr hst HMP
          subst hmv
          generalize wc = w5 at *
          clear w4
          go_wp2_with fail
          refine (setAll_any aa' ca' L' size _ ST'.out.sa ST'.out.g).mono ?_
          rintro e w6 ⟨v, rfl, ho, hb⟩
          obtain ⟨a6, c6, rfl, h6, -⟩ := SlA.of_own ho
          have f6 := Gr.of_below hb
          have H6 := Lib.hid h6
          clear ho hb h6 j0 j1
          have ST6 := Lib.hid (pl_keep ST'.out f6)
          have BO6 := Lib.hid (BO'.out.keep f6 (fun h => h))
          have SW6 := Lib.hid (SW'.out.keep f6 (fun _ _ h => h))
          have OA6 := Lib.hid (OA.out.keep f6 (fun _ _ h => h))
          clear f6 ST' BO' SW' OA
          go_wp2_with fail
          refine (refSorted_own (kS + 1) _ M' L' w6 ST6.out.om ST6.out.pm ST6.out.g.le (by have := HLN.out; omega)).mono ?_
          rintro e w7 ⟨a7, c7, rfl, h7, f7⟩
          have H6' := Lib.hid (H6.out.keep f7 (fun _ _ h => h))
          have H7 := Lib.hid h7
          have ST7 := Lib.hid (pl_keep ST6.out f7)
          have BO7 := Lib.hid (BO6.out.keep f7 (fun h => h))
          have SW7 := Lib.hid (SW6.out.keep f7 (fun _ _ h => h))
          have OA7 := Lib.hid (OA6.out.keep f7 (fun _ _ h => h))
          clear f7 h7 ST6 BO6 SW6 OA6 H6
          go_wp2_with fail
          refine (refSame_any a6 c6 L' a7 c7 L' _ H6'.out H7.out).mono ?_
          rintro e w8 ⟨rfl, q8, rfl⟩
          rw [(same_iff L' L').2 rfl]
          obtain ⟨w8, hw8⟩ : ∃ w8, w8 = w7.drewN q8 := ⟨_, rfl⟩
          rw [← hw8]
          have f8 : Gr w7 w8 := by rw [hw8]; exact (Fr.refl _ _).drewN q8
          have ST8 := Lib.hid (pl_keep ST7.out f8)
          have BO8 := Lib.hid (BO7.out.keep f8 (fun h => h))
          have SW8 := Lib.hid (SW7.out.keep f8 (fun _ _ h => h))
          have OA8 := Lib.hid (OA7.out.keep f8 (fun _ _ h => h))
          clear hw8 f8 ST7 BO7 SW7 OA7 H6' H7
          have j0 := ST8.out.bs.c0
          have j1 := ST8.out.bs.c1
          go_wp2_with fail
          refine (setLen_any aa' L'.length ca' size _).mono ?_
          rintro e w9 ⟨rfl, f9⟩
          have ST9 := Lib.hid (pl_keep ST8.out f9)
          have BO9 := Lib.hid (BO8.out.keep f9 (fun h => h))
          have SW9 := Lib.hid (SW8.out.keep f9 (fun _ _ h => h))
          have OA9 := Lib.hid (OA8.out.keep f9 (fun _ _ h => h))
          clear f9 ST8 BO8 SW8 OA8 j0 j1
          have j0 := ST9.out.bs.c0
          have j1 := ST9.out.bs.c1
          have hne : ((L'.length : Int) != (M'.length : Int)) = false := by rw [HLN.out]; simp
          go_wp2_with fail
          clear hne
          refine (setFull_any aa' L'.length ca' size _).mono ?_
          rintro e w10 ⟨rfl, f10⟩
          rw [show ((L'.length : Nat) : Int) = ((M'.length : Nat) : Int) by rw [HLN.out]]
          have ST10 := Lib.hid (pl_keep ST9.out f10)
          have BO10 := Lib.hid (BO9.out.keep f10 (fun h => h))
          have SW10 := Lib.hid (SW9.out.keep f10 (fun _ _ h => h))
          have OA10 := Lib.hid (OA9.out.keep f10 (fun _ _ h => h))
          clear f10 ST9 BO9 SW9 OA9 j0 j1
          have j0 := ST10.out.bs.c0
          have j1 := ST10.out.bs.c1
          go_wp2_with fail
          refine (setHas_any aa' ca' L' size n _ ST10.out.sa ST10.out.g).mono ?_
          rintro e w11 ⟨rfl, f11⟩
          rw [HAS.out]
          have ST11 := Lib.hid (pl_keep ST10.out f11)
          have BO11 := Lib.hid (BO10.out.keep f11 (fun h => h))
          have SW11 := Lib.hid (SW10.out.keep f11 (fun _ _ h => h))
          have OA11 := Lib.hid (OA10.out.keep f11 (fun _ _ h => h))
          clear f11 ST10 BO10 SW10 OA10 j0 j1
          obtain ⟨ma2, mc2, hmv, hms, -⟩ := SlA.of_own ST11.out.om
          simp only [Value.slice.injEq, true_and] at hmv
          obtain ⟨rfl, rfl⟩ := hmv
          have HM := Lib.hid hms; clear hms
          go_wp2_with fail
          refine (refHas_any _ _ M' n _ HM.out).mono ?_
          rintro e w12 ⟨rfl, rfl⟩
          have b0 := BO11.out.c0
          have b1 := BO11.out.c1
          generalize has M' n = hb at *
          have hbb : (hb != hb) = false := by cases hb <;> rfl
          go_wp2_with fail
          clear hbb
          refine (setAll_any aa ca L size _ OA11.out OG.out).mono ?_
          rintro e w13 ⟨v, rfl, ho, hb'⟩
          obtain ⟨a13, c13, rfl, h13, -⟩ := SlA.of_own ho
          have f13 := Gr.of_below hb'
          have H13 := Lib.hid h13
          have ST13 := Lib.hid (pl_keep ST11.out f13)
          have SW13 := Lib.hid (SW11.out.keep f13 (fun _ _ h => h))
          clear ho hb' h13 f13 ST11 BO11 SW11 OA11 b0 b1 HM
          go_wp2_with fail
          refine (refSame_any a13 c13 L wa wc' L _ H13.out SW13.out).mono ?_
          rintro e w14 ⟨rfl, q14, rfl⟩
          rw [(same_iff L L).2 rfl]
          have ST14 := Lib.hid (pl_keep ST13.out ((Fr.refl (fun _ => False) w13).drewN q14))
          clear ST13 SW13 H13
          go_wp2_with fail
          go_roundw
          case rel => exact ⟨i + 1, L', M', aa', ca', by go_num, by omega, by omega, ST14.out⟩
          case measure => simp [intOf]; omega
    · by_cases h1 : i < l.length
      · have h2 : ¬ i < 90 := fun h => hlt ⟨h1, h⟩
        clear hlt
        have FR := Lib.hid ST.out.fr
        go_wp2_with fail
        go_ret
        exact ⟨rfl, FR.out⟩
      · clear hlt
        have FR := Lib.hid ST.out.fr
        go_wp2_with fail
        go_ret
        exact ⟨rfl, FR.out⟩
end Go.Proofs.Ytoniebocphjmgaa
