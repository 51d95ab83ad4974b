/-
  The walk of StreamJoins.
-/
import Derived.Test.YtkclgemkeifbaaaStrFrom
import Derived.Test.YtkclgemkeifbaaaRegionZ
import Derived.Deep.CutBlock
import Derived.Deep.CutRange
namespace Go.Proofs.Ytkclgemkeifbaaa
open Go.RowKit Go.Proofs

set_option maxHeartbeats 8000000 in
set_option maxRecDepth 100000 in
theorem streamJoins_walk (s : List UInt8) (a : Option Addr) (cap : Nat) (l : List SMsg) (ct : Int) (W : World) (ha : SlA W a l.length cap (l.flatMap SMsg.cells)) (hl : ∀ x ∈ l, x.fits) (hct : 0 ≤ ct ∧ ct < 65536) :
    Calls Try.prog 11 #[.string ⟨s.toArray⟩, .slice a l.length cap, .int .u16 ct] W fun e w' => e = .returned (.bool true) ∧ Below W.heap.size W w' := by
  have HA := Lib.hid ha
  have HL := Lib.hid hl
  have hcap := ha.le
  have hmax := ha.max
  have S0 := Lib.hid (fun w => speaks06_any w)
  obtain ⟨n, hn⟩ : ∃ n, n = min l.length 4 := ⟨_, rfl⟩
  have HN := Lib.hid hn
  have q1 : n ≤ l.length := by omega
  have q2 : n ≤ 4 := by omega
  obtain ⟨m, hm1, hm2, hite, hmin, hm3⟩ := cut_minK 80 80 rfl s
  have hct0 := hct.1
  have hct1 := hct.2
  have hsz := mk_size s
  clear ha hl hn hct hm3
  go_enter Try.func11, Try.ntmps11
  go_wp2_with fail
  refine (S0.out _).mono ?_
  rintro e w1 ⟨rfl, f1⟩
  have F1 := Lib.hid f1
  clear f1 S0
  go_wp2_with fail
  go_loopw [7, 8] (fun sv iv wr => ∃ i : Nat, iv = .int .i64 i ∧ i ≤ n ∧ sv = .string ⟨(frs (l.take i)).toArray⟩ ∧ Gr W wr) (fun _ iv _ => n - (intOf iv).toNat)
  case atStart => exact ⟨0, rfl, Nat.zero_le _, rfl, F1.out⟩
  case round =>
    clear F1
    obtain ⟨i, rfl, hi, rfl, fr⟩ := hrel
    have FR := Lib.hid fr
    clear fr
    go_upto_region 5 with fail
    go_cut [27] from 20 to 27 (fun c wx => c = .bool (decide (i < n)) ∧ wr = wx)
    case first =>
      by_cases h1 : (i : Int) < (l.length : Int)
      · by_cases h2 : (i : Int) < 4
        · have hd := Lib.hid (show decide (i < n) = true by have := HN.out; simp; omega)
          go_wp2_with fail
          go_meet
          exact ⟨by rw [hd.out], rfl⟩
        · have hd := Lib.hid (show decide (i < n) = false by have := HN.out; simp; omega)
          go_wp2_with fail
          go_meet
          exact ⟨by rw [hd.out], rfl⟩
      · have hd := Lib.hid (show decide (i < n) = false by have := HN.out; simp; omega)
        go_wp2_with fail
        go_meet
        exact ⟨by rw [hd.out], rfl⟩
    case rest =>
      obtain ⟨rfl, rfl⟩ := hcut
      by_cases hlt : i < n
      · rw [decide_eq_true hlt]
        obtain ⟨bb, o, rfl, c0, c1, c2⟩ := SMsg.at (HA.out.old FR.out (fun _ h => h.elim)) i (by omega)
        have hfit := HL.out l[i] (List.getElem_mem (by omega))
        have HSN := Lib.hid (frs_snoc l i (by omega))
        generalize l[i] = x at *
        have HT := Lib.hid (told_any x wr hfit)
        clear hfit
        go_wp2_with fail
        refine HT.out.mono ?_
        rintro e w2 ⟨f2, p, rfl, ho⟩
        have F2 := Lib.hid (Gr.trans FR.out f2)
        have C2 := Lib.hid (frame_told x ho.at)
        clear f2 ho FR HT c0 c1 c2
        go_wp2_with fail
        refine C2.out.mono ?_
        rintro e w3 ⟨rfl, f3⟩
        have F3 := Lib.hid (Gr.trans F2.out f3)
        have e1 : (⟨(frs (l.take i)).toArray⟩ : ByteArray) ++ ⟨x.told.frB.toArray⟩ = ⟨(frs (l.take (i + 1))).toArray⟩ := by rw [mk_app', HSN.out]
        have z1 := mk_size (frs (l.take i))
        have z2 := mk_size x.told.frB
        have b0 : (l.take i).length ≤ 4 := by simp; omega
        have b1 : (frs (l.take i)).length ≤ 408 := by have := frs_length (l.take i); omega
        have b2 : x.told.frB.length ≤ 102 := by have := frB_length x.told; have := told_enc x; omega
        clear f3 F2 C2
        go_wp2_with fail
        go_roundw
        case rel => exact ⟨i + 1, by go_num, by omega, rfl, F3.out⟩
        case measure => simp [intOf]; omega
      · rw [decide_eq_false hlt]
        obtain rfl : i = n := by omega
        have hfl := frs_length (l.take i)
        have hfl2 : (l.take i).length ≤ 4 := by simp; omega
        have hx1 : (⟨s.toArray⟩ : ByteArray).extract 0 m = ⟨(s.take m).toArray⟩ := by rw [mk_extract, List.drop_zero]
        have z1 := mk_size (frs (l.take i))
        have z2 := mk_size (s.take m)
        have b1 : (frs (l.take i)).length ≤ 408 := by omega
        have b2 : (s.take m).length ≤ 80 := by simp; omega
        have hx2 : (⟨(frs (l.take i)).toArray⟩ : ByteArray) ++ ⟨(s.take m).toArray⟩ = ⟨(frs (l.take i) ++ s.take m).toArray⟩ := mk_app' _ _
        have hA : (frs (l.take i) ++ s.take m).length ≤ 488 := by simp; omega
        obtain ⟨A, hAe⟩ : ∃ A, A = frs (l.take i) ++ s.take m := ⟨_, rfl⟩
        rw [← hAe] at hx2 hA
        clear hAe
        have hAz := mk_size A
        clear hfl hfl2
        obtain ⟨k, hk⟩ : ∃ k : Nat, ct % ((A.length : Int) + 1) = (k : Int) := ⟨(ct % ((A.length : Int) + 1)).toNat, by have := Int.emod_nonneg ct (show ((A.length : Int) + 1) ≠ 0 by omega); omega⟩
        have hkA : k ≤ A.length := by have := Int.emod_lt_of_pos ct (show (0 : Int) < (A.length : Int) + 1 by omega); omega
        have hx3 : (⟨A.toArray⟩ : ByteArray).extract 0 k = ⟨(A.take k).toArray⟩ := by rw [mk_extract, List.drop_zero]
        have hx4 : (⟨A.toArray⟩ : ByteArray).extract k A.length = ⟨(A.drop k).toArray⟩ := by rw [mk_extract, List.take_length]
        obtain ⟨w2, hw2⟩ : ∃ w2, w2 = (wr.alloc (.cells #[.string ⟨#[]⟩, .int .i64 0] 54)).alloc (.cells #[.string ⟨#[]⟩, .int .i64 0] 54) := ⟨_, rfl⟩
        have SX : Hid (SplAt w2 wr.heap.size [] 0) := Lib.hid (by unfold SplAt; rw [hw2, heap_alloc_if, if_neg (by simp), heap_alloc_if, if_pos rfl])
        have SY : Hid (SplAt w2 (wr.heap.size + 1) [] 0) := Lib.hid (by unfold SplAt; rw [hw2, heap_alloc_if, if_pos (by simp)])
        have F2 : Hid (Gr W w2) := Lib.hid (by rw [hw2]; exact (FR.out.alloc _).alloc _)
        have szr := FR.out.size
        have HW2 := Lib.hid hw2
        have HS2 : Hid (w2.heap.size = wr.heap.size + 2) := Lib.hid (by rw [hw2]; simp)
        clear hw2 FR
        have C1 := Lib.hid (from_any (st := ([], 0)) (A.take k) SX.out (by simp; omega))
        go_wp2_with fail
        rw [← HW2.out]
        clear HW2
        refine C1.out.mono ?_
        rintro e w3 h3
        obtain ⟨f3, sx3, L1, a1, p1, hL1, rfl, m1⟩ := feed_ends h3
        rw [show feedFrom ([], 0) (A.take k) = feed (A.take k) from rfl] at sx3 hL1
        have hsh := feed_shorter (A.take k)
        have C2 := Lib.hid (from_any (st := (feed (A.take k)).2) (A.drop k) sx3 (by simp at hsh ⊢; omega))
        have SY3 := Lib.hid (SY.out.keep f3 (by omega))
        have F3 : Hid (Gr W w3) := Lib.hid (Fr.trans F2.out f3 (fun q h => .inr (by omega)))
        have M1 := Lib.hid m1
        have HS3 : Hid (wr.heap.size + 2 ≤ w3.heap.size) := Lib.hid (by have := f3.size; have := HS2.out; omega)
        have HL1 := Lib.hid hL1
        clear f3 sx3 hL1 m1 hsh h3 C1 F2 SX SY
        go_wp2_with fail
        refine C2.out.mono ?_
        rintro e w4 h4
        obtain ⟨f4, sx4, L2, a2, p2, hL2, rfl, m2⟩ := feed_ends h4
        have SX4 := Lib.hid sx4
        have C3 := Lib.hid (from_any (st := ([], 0)) A (SY3.out.keep f4 (by omega)) (by simp; omega))
        have F4 : Hid (Gr W w4) := Lib.hid (Fr.trans F3.out f4 (fun q h => .inr (by omega)))
        have M1' := Lib.hid (M1.out.keep f4 (fun q h => by have := HS2.out; omega))
        have M2 := Lib.hid m2
        have HL2 := Lib.hid hL2
        clear f4 sx4 hL2 m2 h4 C2 SY3 F3 M1
        go_wp2_with fail
        refine C3.out.mono ?_
        rintro e w5 h5
        obtain ⟨f5, sy5, L3, a3, p3, hL3, rfl, m3⟩ := feed_ends h5
        rw [show feedFrom ([], 0) A = feed A from rfl] at sy5 hL3
        have hJ := feed_from (A.take k) (A.drop k)
        rw [List.take_append_drop] at hJ
        have hst : (feed A).2 = (feedFrom (feed (A.take k)).2 (A.drop k)).2 := by rw [hJ]
        have hms : L1.map Prod.fst ++ L2.map Prod.fst = L3.map Prod.fst := by rw [HL1.out, HL2.out, hL3, hJ]
        have sx5 := SX4.out.keep f5 (by omega)
        rw [← hst] at sx5
        have hs3 := F4.out.size
        have M5 := Lib.hid (M1'.out.keep f5 (fun q h => by have := HS2.out; omega))
        have N5 := Lib.hid (M2.out.keep f5 (fun q h => by have := HS2.out; have := HS3.out; omega))
        have K5 := Lib.hid m3
        have F5 : Hid (Gr W w5) := Lib.hid (Fr.trans F4.out f5 (fun q h => .inr (by omega)))
        generalize (feed A).2 = st at *
        obtain ⟨u, c⟩ := st
        have SX5 : Hid (SplAt w5 wr.heap.size u c) := Lib.hid sx5
        have SY5 : Hid (SplAt w5 (wr.heap.size + 1) u c) := Lib.hid sy5
        have hln := congrArg List.length hms
        simp only [List.length_append, List.length_map] at hln
        have hlen : (L1.length : Int) + (L2.length : Int) = (L3.length : Int) := by omega
        have HMS := Lib.hid hms
        have hb1 : (L3.length : Int) ≤ 1000 := by
          have := feed_few A
          have h3 := congrArg List.length hL3
          simp at h3; omega
        clear f5 sy5 hL3 m3 h5 hJ hst hms sx5 hs3 M1' M2 HL1 HL2 SX4 F4 C3 hln HS2 HS3
        have t1 := Lib.hid (splBad_any SX5.out)
        have t2 := Lib.hid (splBad_any SY5.out)
        have t3 := Lib.hid (splLeft_any SX5.out)
        have t4 := Lib.hid (splLeft_any SY5.out)
        go_wp2_with fail
        refine t1.out.mono ?_
        rintro e w6 ⟨rfl, rfl⟩
        go_wp2_with fail
        refine t2.out.mono ?_
        rintro e w6 ⟨rfl, rfl⟩
        go_wp2_with fail
        refine t3.out.mono ?_
        rintro e w6 ⟨rfl, rfl⟩
        go_wp2_with fail
        refine t4.out.mono ?_
        rintro e w6 ⟨rfl, rfl⟩
        go_wp2_with fail
        clear t1 t2 t3 t4 SX5 SY5 hx1 hx2 hx3 hx4 hAz hA hk hkA z1 z2 b1 b2 hite hmin hm1 hm2 hsz hct0 hct1 hcap hmax q1 q2 hi HN hlt HA HL
        go_loopw [17] (fun jv wx => ∃ j : Nat, jv = .int .i64 j ∧ j ≤ L3.length ∧ Gr w5 wx) (fun jv _ => L3.length - (intOf jv).toNat)
        case atStart => exact ⟨0, rfl, Nat.zero_le _, Fr.refl _ _⟩
        case round =>
          obtain ⟨j, rfl, hj, fr⟩ := hrel
          have FR := Lib.hid fr
          clear fr
          by_cases hlt : j < L3.length
          case neg =>
            go_wp2_with fail
            go_ret
            exact ⟨rfl, Fr.below (Below.refl _ _) (Gr.trans F5.out FR.out) (Nat.le_refl _) (fun _ h => h.elim)⟩
          by_cases h1 : j < L1.length
          · have hx : j < L1.length := by omega
            have he : L1[j].1 = (L3[j]'hlt).1 := by
              have h := congrArg (fun l => l[j]?) HMS.out
              simp only [List.getElem?_append, List.length_map, List.getElem?_map] at h
              rw [if_pos h1] at h
              rw [List.getElem?_eq_getElem hx, List.getElem?_eq_getElem hlt] at h
              simpa using h
            obtain ⟨b1, o1, e1, c1⟩ := (M5.out.keep FR.out (fun _ h => h.elim)).get j hx
            obtain ⟨b3, o3, e3, c3⟩ := (K5.out.keep FR.out (fun _ h => h.elim)).get (j) hlt
            have A1 := Lib.hid ((M5.out.keep FR.out (fun _ h => h.elim)).own _ (List.getElem_mem hx)).at
            have A3 := Lib.hid ((K5.out.keep FR.out (fun _ h => h.elim)).own _ (List.getElem_mem hlt)).at
            generalize L1[j] = x1 at *
            generalize L3[j]'hlt = x3 at *
            obtain ⟨m1, q1⟩ := x1
            obtain ⟨m3, q3⟩ := x3
            simp only at he
            subst he
            subst e1
            subst e3
            haveI : Nonempty (WC (Fr (fun _ => False) wr)) := ⟨⟨wr, Fr.refl _ _⟩⟩
            have y0 : ∀ z : WC (Fr (fun _ => False) wr), z.val.cell? ⟨b1, o1 + j * 7, none⟩ = some (.int .i64 m1.kind) := fun z => z.ok.cell (by have := c1 0 _ rfl; simpa using this) (fun h => h)
            have y1 : ∀ z : WC (Fr (fun _ => False) wr), z.val.cell? ⟨b1, o1 + j * 7 + 1, none⟩ = some (.int .i64 m1.node) := fun z => z.ok.cell (by have := c1 1 _ rfl; simpa using this) (fun h => h)
            have y2 : ∀ z : WC (Fr (fun _ => False) wr), z.val.cell? ⟨b1, o1 + j * 7 + 2, none⟩ = some (.int .i64 m1.walk) := fun z => z.ok.cell (by have := c1 2 _ rfl; simpa using this) (fun h => h)
            have y3 : ∀ z : WC (Fr (fun _ => False) wr), z.val.cell? ⟨b1, o1 + j * 7 + 3, none⟩ = some (.bool m1.high) := fun z => z.ok.cell (by have := c1 3 _ rfl; simpa using this) (fun h => h)
            have y4 : ∀ z : WC (Fr (fun _ => False) wr), z.val.cell? ⟨b1, o1 + j * 7 + 4, none⟩ = some (.slice q1.a1 m1.nodes.length q1.c1) := fun z => z.ok.cell (by have := c1 4 _ rfl; simpa using this) (fun h => h)
            have y5 : ∀ z : WC (Fr (fun _ => False) wr), z.val.cell? ⟨b1, o1 + j * 7 + 5, none⟩ = some (.slice q1.a2 m1.ids.length q1.c2) := fun z => z.ok.cell (by have := c1 5 _ rfl; simpa using this) (fun h => h)
            have y6 : ∀ z : WC (Fr (fun _ => False) wr), z.val.cell? ⟨b1, o1 + j * 7 + 6, none⟩ = some (.slice q1.a3 m1.recs.length q1.c3) := fun z => z.ok.cell (by have := c1 6 _ rfl; simpa using this) (fun h => h)
            have v0 : ∀ z : WC (Fr (fun _ => False) wr), z.val.cell? ⟨b3, o3 + j * 7, none⟩ = some (.int .i64 m1.kind) := fun z => z.ok.cell (by have := c3 0 _ rfl; simpa using this) (fun h => h)
            have v1 : ∀ z : WC (Fr (fun _ => False) wr), z.val.cell? ⟨b3, o3 + j * 7 + 1, none⟩ = some (.int .i64 m1.node) := fun z => z.ok.cell (by have := c3 1 _ rfl; simpa using this) (fun h => h)
            have v2 : ∀ z : WC (Fr (fun _ => False) wr), z.val.cell? ⟨b3, o3 + j * 7 + 2, none⟩ = some (.int .i64 m1.walk) := fun z => z.ok.cell (by have := c3 2 _ rfl; simpa using this) (fun h => h)
            have v3 : ∀ z : WC (Fr (fun _ => False) wr), z.val.cell? ⟨b3, o3 + j * 7 + 3, none⟩ = some (.bool m1.high) := fun z => z.ok.cell (by have := c3 3 _ rfl; simpa using this) (fun h => h)
            have v4 : ∀ z : WC (Fr (fun _ => False) wr), z.val.cell? ⟨b3, o3 + j * 7 + 4, none⟩ = some (.slice q3.a1 m1.nodes.length q3.c1) := fun z => z.ok.cell (by have := c3 4 _ rfl; simpa using this) (fun h => h)
            have v5 : ∀ z : WC (Fr (fun _ => False) wr), z.val.cell? ⟨b3, o3 + j * 7 + 5, none⟩ = some (.slice q3.a2 m1.ids.length q3.c2) := fun z => z.ok.cell (by have := c3 5 _ rfl; simpa using this) (fun h => h)
            have v6 : ∀ z : WC (Fr (fun _ => False) wr), z.val.cell? ⟨b3, o3 + j * 7 + 6, none⟩ = some (.slice q3.a3 m1.recs.length q3.c3) := fun z => z.ok.cell (by have := c3 6 _ rfl; simpa using this) (fun h => h)
            have CS : Hid (∀ w', Gr wr w' → Calls Try.prog 20 #[m1.val q1, m1.val q3] w' fun e w2 => e = .returned (.bool true) ∧ Gr w' w2) := Lib.hid (fun w' f => (same_any m1 m1 q1 q3 w' (A1.out.keep f) (A3.out.keep f)).mono (fun e w h => ⟨by simpa using h.1, h.2⟩))
            clear c1 c3 A1 A3
            go_wp2_with fail
            refine wp_region_plan [13, 33] (Plan.seq (List.range 37) .done) (fun w' => ∃ z : WC (Fr (fun _ => False) wr), w' = z.val) (by kernel_rfl) (by kernel_rfl) (fun c a w d v h => by cases d <;> exact h) (fun c a w d v h => by cases d <;> exact h) ⟨⟨wr.drew, (Fr.refl _ _).drew⟩, rfl⟩ ?_
            simp only [Plan.seq, List.range, List.range.loop, List.foldr]
            have d1 : decide (j < L1.length) = true := decide_eq_true h1
            have d2 : decide (L1.length ≤ j) = false := decide_eq_false (by omega)
            repeat (refine wpV_q (by simp only [List.getElem?_toArray, List.getElem?_cons_succ, List.getElem?_cons_zero] <;> rfl) (by rfl) (by rfl) ?_; go_big_quiet_step (exact rfl); refine wpQuiet_nil ?_)
            refine wpV_e (by simp only [List.getElem?_toArray, List.getElem?_cons_succ, List.getElem?_cons_zero] <;> rfl) (by rfl) ?_
            go_wp2_with fail
            refine (CS.out _ (Fr.refl _ _).drew).mono ?_
            rintro e w6 ⟨rfl, f6⟩
            have F6 : Hid (Gr wr w6) := Lib.hid (Gr.trans (Fr.refl _ _).drew f6)
            clear f6
            go_wp2_with fail
            refine ⟨⟨⟨w6, F6.out⟩, rfl⟩, ?_⟩
            repeat (refine wpV_q (by simp only [List.getElem?_toArray, List.getElem?_cons_succ, List.getElem?_cons_zero] <;> rfl) (by rfl) (by rfl) ?_; go_big_quiet_step (exact rfl); refine wpQuiet_nil ?_)
            refine wpV_e (by simp only [List.getElem?_toArray, List.getElem?_cons_succ, List.getElem?_cons_zero] <;> rfl) (by rfl) ?_
            go_wp2_with fail
            refine ⟨⟨⟨w6, F6.out⟩, rfl⟩, ?_⟩
            repeat (refine wpV_q (by simp only [List.getElem?_toArray, List.getElem?_cons_succ, List.getElem?_cons_zero] <;> rfl) (by rfl) (by rfl) ?_; go_big_quiet_step (exact rfl); refine wpQuiet_nil ?_)
            refine wpV_done ?_
            clear d1 d2 y0 y1 y2 y3 y4 y5 y6 v0 v1 v2 v3 v4 v5 v6 CS
            go_wp2_with fail
            go_roundw
            case rel => exact ⟨j + 1, by go_num, by omega, Gr.trans FR.out F6.out⟩
            case measure => simp [intOf]; omega
          · obtain ⟨k, hk⟩ : ∃ k, k = j - L1.length := ⟨_, rfl⟩
            have hsub : (j : Int) - (L1.length : Int) = (k : Int) := by omega
            have h1' : L1.length ≤ j := by omega
            have hwr : IntKind.i64.wrap ((j : Int) - (L1.length : Int)) = (k : Int) := by rw [hsub]; exact IntWalk.i64_in _ ⟨by omega, by omega⟩
            have hk2 : (k : Int) < (L2.length : Int) := by omega
            have HK := Lib.hid hk
            clear hk
            have hx : k < L2.length := by omega
            have he : L2[k].1 = (L3[j]'hlt).1 := by
              have h := congrArg (fun l => l[j]?) HMS.out
              simp only [List.getElem?_append, List.length_map, List.getElem?_map] at h
              rw [if_neg h1, ← HK.out] at h
              rw [List.getElem?_eq_getElem hx, List.getElem?_eq_getElem hlt] at h
              simpa using h
            obtain ⟨b1, o1, e1, c1⟩ := (N5.out.keep FR.out (fun _ h => h.elim)).get k hx
            obtain ⟨b3, o3, e3, c3⟩ := (K5.out.keep FR.out (fun _ h => h.elim)).get j hlt
            have A1 := Lib.hid ((N5.out.keep FR.out (fun _ h => h.elim)).own _ (List.getElem_mem hx)).at
            have A3 := Lib.hid ((K5.out.keep FR.out (fun _ h => h.elim)).own _ (List.getElem_mem hlt)).at
            generalize L2[k] = x1 at *
            generalize L3[j]'hlt = x3 at *
            obtain ⟨m1, q1⟩ := x1
            obtain ⟨m3, q3⟩ := x3
            simp only at he
            subst he
            subst e1
            subst e3
            haveI : Nonempty (WC (Fr (fun _ => False) wr)) := ⟨⟨wr, Fr.refl _ _⟩⟩
            have y0 : ∀ z : WC (Fr (fun _ => False) wr), z.val.cell? ⟨b1, o1 + k * 7, none⟩ = some (.int .i64 m1.kind) := fun z => z.ok.cell (by have := c1 0 _ rfl; simpa using this) (fun h => h)
            have y1 : ∀ z : WC (Fr (fun _ => False) wr), z.val.cell? ⟨b1, o1 + k * 7 + 1, none⟩ = some (.int .i64 m1.node) := fun z => z.ok.cell (by have := c1 1 _ rfl; simpa using this) (fun h => h)
            have y2 : ∀ z : WC (Fr (fun _ => False) wr), z.val.cell? ⟨b1, o1 + k * 7 + 2, none⟩ = some (.int .i64 m1.walk) := fun z => z.ok.cell (by have := c1 2 _ rfl; simpa using this) (fun h => h)
            have y3 : ∀ z : WC (Fr (fun _ => False) wr), z.val.cell? ⟨b1, o1 + k * 7 + 3, none⟩ = some (.bool m1.high) := fun z => z.ok.cell (by have := c1 3 _ rfl; simpa using this) (fun h => h)
            have y4 : ∀ z : WC (Fr (fun _ => False) wr), z.val.cell? ⟨b1, o1 + k * 7 + 4, none⟩ = some (.slice q1.a1 m1.nodes.length q1.c1) := fun z => z.ok.cell (by have := c1 4 _ rfl; simpa using this) (fun h => h)
            have y5 : ∀ z : WC (Fr (fun _ => False) wr), z.val.cell? ⟨b1, o1 + k * 7 + 5, none⟩ = some (.slice q1.a2 m1.ids.length q1.c2) := fun z => z.ok.cell (by have := c1 5 _ rfl; simpa using this) (fun h => h)
            have y6 : ∀ z : WC (Fr (fun _ => False) wr), z.val.cell? ⟨b1, o1 + k * 7 + 6, none⟩ = some (.slice q1.a3 m1.recs.length q1.c3) := fun z => z.ok.cell (by have := c1 6 _ rfl; simpa using this) (fun h => h)
            have v0 : ∀ z : WC (Fr (fun _ => False) wr), z.val.cell? ⟨b3, o3 + j * 7, none⟩ = some (.int .i64 m1.kind) := fun z => z.ok.cell (by have := c3 0 _ rfl; simpa using this) (fun h => h)
            have v1 : ∀ z : WC (Fr (fun _ => False) wr), z.val.cell? ⟨b3, o3 + j * 7 + 1, none⟩ = some (.int .i64 m1.node) := fun z => z.ok.cell (by have := c3 1 _ rfl; simpa using this) (fun h => h)
            have v2 : ∀ z : WC (Fr (fun _ => False) wr), z.val.cell? ⟨b3, o3 + j * 7 + 2, none⟩ = some (.int .i64 m1.walk) := fun z => z.ok.cell (by have := c3 2 _ rfl; simpa using this) (fun h => h)
            have v3 : ∀ z : WC (Fr (fun _ => False) wr), z.val.cell? ⟨b3, o3 + j * 7 + 3, none⟩ = some (.bool m1.high) := fun z => z.ok.cell (by have := c3 3 _ rfl; simpa using this) (fun h => h)
            have v4 : ∀ z : WC (Fr (fun _ => False) wr), z.val.cell? ⟨b3, o3 + j * 7 + 4, none⟩ = some (.slice q3.a1 m1.nodes.length q3.c1) := fun z => z.ok.cell (by have := c3 4 _ rfl; simpa using this) (fun h => h)
            have v5 : ∀ z : WC (Fr (fun _ => False) wr), z.val.cell? ⟨b3, o3 + j * 7 + 5, none⟩ = some (.slice q3.a2 m1.ids.length q3.c2) := fun z => z.ok.cell (by have := c3 5 _ rfl; simpa using this) (fun h => h)
            have v6 : ∀ z : WC (Fr (fun _ => False) wr), z.val.cell? ⟨b3, o3 + j * 7 + 6, none⟩ = some (.slice q3.a3 m1.recs.length q3.c3) := fun z => z.ok.cell (by have := c3 6 _ rfl; simpa using this) (fun h => h)
            have CS : Hid (∀ w', Gr wr w' → Calls Try.prog 20 #[m1.val q1, m1.val q3] w' fun e w2 => e = .returned (.bool true) ∧ Gr w' w2) := Lib.hid (fun w' f => (same_any m1 m1 q1 q3 w' (A1.out.keep f) (A3.out.keep f)).mono (fun e w h => ⟨by simpa using h.1, h.2⟩))
            clear c1 c3 A1 A3
            go_wp2_with fail
            refine wp_region_plan [13, 33] (Plan.seq (List.range 37) .done) (fun w' => ∃ z : WC (Fr (fun _ => False) wr), w' = z.val) (by kernel_rfl) (by kernel_rfl) (fun c a w d v h => by cases d <;> exact h) (fun c a w d v h => by cases d <;> exact h) ⟨⟨wr.drew, (Fr.refl _ _).drew⟩, rfl⟩ ?_
            simp only [Plan.seq, List.range, List.range.loop, List.foldr]
            have d1 : decide (j < L1.length) = false := decide_eq_false h1
            have d2 : decide (L1.length ≤ j) = true := decide_eq_true h1'
            repeat (refine wpV_q (by simp only [List.getElem?_toArray, List.getElem?_cons_succ, List.getElem?_cons_zero] <;> rfl) (by rfl) (by rfl) ?_; go_big_quiet_step (exact rfl); refine wpQuiet_nil ?_)
            refine wpV_e (by simp only [List.getElem?_toArray, List.getElem?_cons_succ, List.getElem?_cons_zero] <;> rfl) (by rfl) ?_
            go_wp2_with fail
            refine ⟨⟨⟨wr.drew, (Fr.refl _ _).drew⟩, rfl⟩, ?_⟩
            repeat (refine wpV_q (by simp only [List.getElem?_toArray, List.getElem?_cons_succ, List.getElem?_cons_zero] <;> rfl) (by rfl) (by rfl) ?_; go_big_quiet_step (exact rfl); refine wpQuiet_nil ?_)
            refine wpV_e (by simp only [List.getElem?_toArray, List.getElem?_cons_succ, List.getElem?_cons_zero] <;> rfl) (by rfl) ?_
            go_wp2_with fail
            refine (CS.out _ (Fr.refl _ _).drew).mono ?_
            rintro e w6 ⟨rfl, f6⟩
            have F6 : Hid (Gr wr w6) := Lib.hid (Gr.trans (Fr.refl _ _).drew f6)
            clear f6
            go_wp2_with fail
            refine ⟨⟨⟨w6, F6.out⟩, rfl⟩, ?_⟩
            repeat (refine wpV_q (by simp only [List.getElem?_toArray, List.getElem?_cons_succ, List.getElem?_cons_zero] <;> rfl) (by rfl) (by rfl) ?_; go_big_quiet_step (exact rfl); refine wpQuiet_nil ?_)
            refine wpV_done ?_
            clear d1 d2 y0 y1 y2 y3 y4 y5 y6 v0 v1 v2 v3 v4 v5 v6 CS
            go_wp2_with fail
            go_roundw
            case rel => exact ⟨j + 1, by go_num, by omega, Gr.trans FR.out F6.out⟩
            case measure => simp [intOf]; omega
end Go.Proofs.Ytkclgemkeifbaaa
