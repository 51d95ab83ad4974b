/-
  The walk of both (printed by gen_both.py).
-/
import Derived.Test.YtkclgemkeifbaaaMsgBothR
import Derived.Deep.CutBlock
import Derived.Deep.CutRange
namespace Go.Proofs.Ytkclgemkeifbaaa
open Go.RowKit Go.Proofs

theorem Try.infoRefId : (Try.prog.info? 126).map (fun i => (i.zero, i.size, i.bytes)) = some (some (.agg #[.string ⟨#[]⟩, .int .u64 0]), 2, 24) := by kernel_rfl

theorem both_start {W w : World} {x : LMsg} {xp : MsgP} (h : ((((W.alloc (.cells (x.arr xp) 25)).alloc (.cells (Msg.zero.arr MsgP.zero) 30)).alloc (.cells (Msg.zero.arr MsgP.zero) 34)).alloc (.cells #[.int .i64 x.kind, .int .i64 x.node, .int .i64 x.walk, .bool x.high, .slice none 0 0, .slice none 0 0, .slice none 0 0] 30)).alloc (.cells #[.int .i64 x.kind, .int .i64 x.node, .int .i64 x.walk, .bool x.high, .slice none 0 0, .slice none 0 0, .slice none 0 0] 34) = w) :
    BothSt W x xp #[.int .i64 x.kind, .int .i64 x.node, .int .i64 x.walk, .bool x.high, .slice none 0 0, .slice none 0 0, .slice none 0 0] #[.int .i64 x.kind, .int .i64 x.node, .int .i64 x.walk, .bool x.high, .slice none 0 0, .slice none 0 0, .slice none 0 0] w := by
  subst h
  refine ⟨((((Fr.refl _ _).alloc _).alloc _).alloc _).alloc _ |>.alloc _, by simp, ?_, ?_, ?_, ?_, ?_⟩
  · exact ((((Bx.new W (x.arr xp) 25).keep ((Fr.refl (fun _ => False) _).alloc _) (fun h => h)).keep ((Fr.refl (fun _ => False) _).alloc _) (fun h => h)).keep ((Fr.refl (fun _ => False) _).alloc _) (fun h => h)).keep ((Fr.refl (fun _ => False) _).alloc _) (fun h => h)
  all_goals repeat (first | (rw [heap_alloc_if, if_pos (by simp)]; done) | rw [heap_alloc_if, if_neg (by simp)])

set_option maxHeartbeats 16000000 in
set_option maxRecDepth 100000 in
theorem both_any (x : LMsg) (xp : MsgP) (W : World) (hx : LMsgAt W x xp) (hok : x.Ok) : Calls Try.prog 16 #[x.val xp] W (BothPost W x.msg) := by
  obtain ⟨i1, hi1, hi2, hi3, hi4⟩ := info_parts Try.infoMInt
  obtain ⟨i2, hj1, hj2, hj3, hj4⟩ := info_parts Try.infoMId
  obtain ⟨i3, hl1, hl2, hl3, hl4⟩ := info_parts Try.infoMRec
  obtain ⟨i4, hm1, hm2, hm3, hm4⟩ := info_parts Try.infoRefId
  obtain ⟨i5, hn1, hn2, hn3, hn4⟩ := info_parts Try.infoRefRec
  have HX := Lib.hid hx
  have HOK := Lib.hid hok
  have hc1 := hx.nodes.le
  have hc2 := hx.ids.le
  have hc3 := hx.recs.le
  have hd1 := hx.nodes.max
  have hd2 := hx.ids.max
  have hd3 := hx.recs.max
  clear hx hok
  go_enter Try.func16, Try.ntmps16
  go_wp2_with fail
  generalize hw0 : ((((W.alloc (.cells #[.int .i64 x.kind, .int .i64 x.node, .int .i64 x.walk, .bool x.high, .slice xp.a1 x.nodes.length xp.c1, .slice xp.a2 x.ids.length xp.c2, .slice xp.a3 x.recs.length xp.c3] 25)).alloc (.cells #[.int .i64 0, .int .i64 0, .int .i64 0, .bool false, .slice none 0 0, .slice none 0 0, .slice none 0 0] 30)).alloc (.cells #[.int .i64 0, .int .i64 0, .int .i64 0, .bool false, .slice none 0 0, .slice none 0 0, .slice none 0 0] 34)).alloc (.cells #[.int .i64 x.kind, .int .i64 x.node, .int .i64 x.walk, .bool x.high, .slice none 0 0, .slice none 0 0, .slice none 0 0] 30)).alloc (.cells #[.int .i64 x.kind, .int .i64 x.node, .int .i64 x.walk, .bool x.high, .slice none 0 0, .slice none 0 0, .slice none 0 0] 34) = w0
  have ST0 := Lib.hid (both_start hw0)
  clear hw0
  simp only [Nat.add_assoc, Nat.reduceAdd]
  obtain ⟨n1, hn1⟩ : ∃ n1, n1 = min x.nodes.length 70 := ⟨_, rfl⟩
  obtain ⟨n2, hn2⟩ : ∃ n2, n2 = min x.ids.length 70 := ⟨_, rfl⟩
  obtain ⟨n3, hn3⟩ : ∃ n3, n3 = min x.recs.length 20 := ⟨_, rfl⟩
  have HN1 := Lib.hid hn1
  have HN2 := Lib.hid hn2
  have HN3 := Lib.hid hn3
  have q1 : n1 ≤ x.nodes.length := by omega
  have q2 : n2 ≤ x.ids.length := by omega
  have q3 : n3 ≤ x.recs.length := by omega
  have r1 : n1 ≤ 70 := by omega
  have r2 : n2 ≤ 70 := by omega
  have r3 : n3 ≤ 20 := by omega
  clear hn1 hn2 hn3
  go_loopw [6] (fun iv wr => ∃ (da : List Int) (va vb : Value), iv = .int .i64 da.length ∧ da.length ≤ n1 ∧ Hid (da = x.nodes.take da.length) ∧ BothSt W x xp #[.int .i64 x.kind, .int .i64 x.node, .int .i64 x.walk, .bool x.high, va, .slice none 0 0, .slice none 0 0] #[.int .i64 x.kind, .int .i64 x.node, .int .i64 x.walk, .bool x.high, vb, .slice none 0 0, .slice none 0 0] wr ∧ wr.ownsRow (W.heap.size + 5) 3 1 va da.length (da.flatMap MInt.cells) ∧ wr.ownsRow (W.heap.size + 5) 3 1 vb da.length (da.flatMap MInt.cells) ∧ Sep va vb) (fun iv _ => n1 - (intOf iv).toNat)
  case atStart => exact ⟨[], _, _, rfl, Nat.zero_le _, Lib.hid rfl, ST0.out, World.ownsRow_nil _ _ _ _, World.ownsRow_nil _ _ _ _, fun g h => by cases h⟩
  case round =>
    clear ST0
    obtain ⟨da, va, vb, rfl, hk, HD, hst, hoa, hob, hsep⟩ := hrel
    have ST := Lib.hid hst
    have OA := Lib.hid hoa
    have OB := Lib.hid hob
    have SE := Lib.hid hsep
    clear hst hoa hob hsep
    have y4 := ST.out.bx 4 _ rfl
    go_upto_region 4 with fail
    go_cut [37] from 29 to 37 (fun c wx => c = .bool (decide (da.length < n1)) ∧ wr = wx)
    case first =>
      by_cases h1 : (da.length : Int) < (x.nodes.length : Int)
      · by_cases h2 : (da.length : Int) < 70
        · have hd := Lib.hid (show decide (da.length < n1) = true by have := HN1.out; simp; omega)
          go_wp2_with fail
          go_meet
          exact ⟨by rw [hd.out], rfl⟩
        · have hd := Lib.hid (show decide (da.length < n1) = false by have := HN1.out; simp; omega)
          go_wp2_with fail
          go_meet
          exact ⟨by rw [hd.out], rfl⟩
      · have hd := Lib.hid (show decide (da.length < n1) = false by have := HN1.out; simp; omega)
        go_wp2_with fail
        go_meet
        exact ⟨by rw [hd.out], rfl⟩
    case rest =>
      obtain ⟨rfl, rfl⟩ := hcut
      by_cases hlt : da.length < n1
      · rw [decide_eq_true hlt]
        obtain ⟨bb, o, ea, hc⟩ := HX.out.node da.length (by omega)
        have HS : Hid (da ++ [x.nodes[da.length]] = x.nodes.take (da ++ [x.nodes[da.length]]).length) := Lib.hid (by have := snoc_of (f := fun a => a) (l := x.nodes) (d := da) (by simpa using HD.out) (by omega); simpa using this)
        generalize x.nodes[da.length] = e at *
        haveI : Nonempty (WC (BothSt W x xp #[.int .i64 x.kind, .int .i64 x.node, .int .i64 x.walk, .bool x.high, va, .slice none 0 0, .slice none 0 0] #[.int .i64 x.kind, .int .i64 x.node, .int .i64 x.walk, .bool x.high, vb, .slice none 0 0, .slice none 0 0])) := ⟨⟨_, ST.out⟩⟩
        have x1 : ∀ z : WC (BothSt W x xp #[.int .i64 x.kind, .int .i64 x.node, .int .i64 x.walk, .bool x.high, va, .slice none 0 0, .slice none 0 0] #[.int .i64 x.kind, .int .i64 x.node, .int .i64 x.walk, .bool x.high, vb, .slice none 0 0, .slice none 0 0]), z.val.cell? ⟨W.heap.size, 4, none⟩ = some (.slice (some ⟨bb, o, none⟩) x.nodes.length xp.c1) := fun z => by rw [← ea]; exact z.ok.bx 4 _ rfl
        have x2 : ∀ z : WC (BothSt W x xp #[.int .i64 x.kind, .int .i64 x.node, .int .i64 x.walk, .bool x.high, va, .slice none 0 0, .slice none 0 0] #[.int .i64 x.kind, .int .i64 x.node, .int .i64 x.walk, .bool x.high, vb, .slice none 0 0, .slice none 0 0]), z.val.cell? ⟨bb, o + da.length, none⟩ = some (.int .i64 e) := fun z => z.ok.fr.cell hc (fun h => h)
        have x3 : ∀ z : WC (BothSt W x xp #[.int .i64 x.kind, .int .i64 x.node, .int .i64 x.walk, .bool x.high, va, .slice none 0 0, .slice none 0 0] #[.int .i64 x.kind, .int .i64 x.node, .int .i64 x.walk, .bool x.high, vb, .slice none 0 0, .slice none 0 0]), z.val.cell? ⟨W.heap.size + 3, 4, none⟩ = some va := fun z => z.ok.cellA 4 _ rfl
        have x4 : ∀ z : WC (BothSt W x xp #[.int .i64 x.kind, .int .i64 x.node, .int .i64 x.walk, .bool x.high, va, .slice none 0 0, .slice none 0 0] #[.int .i64 x.kind, .int .i64 x.node, .int .i64 x.walk, .bool x.high, vb, .slice none 0 0, .slice none 0 0]), z.val.cell? ⟨W.heap.size + 4, 4, none⟩ = some vb := fun z => z.ok.cellB 4 _ rfl
        clear hc ea y4
        obtain ⟨wd, hwd⟩ : ∃ wd, wd = wr.drew := ⟨_, rfl⟩
        have fd : Gr wr wd := by rw [hwd]; exact (Fr.refl _ _).drew
        have STd := Lib.hid (ST.out.gr fd)
        have OAd := Lib.hid (own_fr OA.out fd (fun _ _ h => h))
        have OBd := Lib.hid (own_fr OB.out fd (fun _ _ h => h))
        have HWD := Lib.hid hwd
        clear fd hwd
        go_wp2_with fail
        refine wp_region_tail 19 3 [7, 8, 16, 17] (.take 0 (.take 1 (.take 2 (.take 3 (.take 4 (.take 5 (.take 6 (.take 9 (.take 10 (.take 11 (.take 12 (.take 13 (.take 14 (.take 15 (.fork 7 16 (.fork 8 16 (.take 16 (.take 17 (.take 18 .done))) (.take 8 (.take 17 (.take 18 .done)))) (.take 7 (.take 8 (.take 17 (.take 18 .done))))))))))))))))))) [19, 21] [19, 20, 21] (fun w' => ∃ z : WC (BothSt W x xp #[.int .i64 x.kind, .int .i64 x.node, .int .i64 x.walk, .bool x.high, va, .slice none 0 0, .slice none 0 0] #[.int .i64 x.kind, .int .i64 x.node, .int .i64 x.walk, .bool x.high, vb, .slice none 0 0, .slice none 0 0]), w' = z.val) (by kernel_rfl) (by kernel_rfl) (fun c a w d v h => by cases d <;> exact h) (fun c a w d v h => by cases d <;> exact h) ⟨⟨_, ST.out.drew⟩, rfl⟩ ?_
        simp only [List.take]
        rw [← HWD.out]
        clear HWD
        repeat (refine wpV_q (by simp only [List.getElem?_toArray, List.getElem?_cons_succ, List.getElem?_cons_zero] <;> rfl) (by rfl) (by rfl) ?_; go_big_quiet_step (exact rfl); refine wpQuiet_nil ?_)
        refine wpV_fork (by simp only [List.getElem?_toArray, List.getElem?_cons_succ, List.getElem?_cons_zero] <;> rfl) (by simp only [List.getElem?_toArray, List.getElem?_cons_succ, List.getElem?_cons_zero] <;> rfl) ?_ ?_
        · skip
          go_wp2_with fail
          generalize hw1 : World.alloc wd (.cells #[.int .i64 e] 3) = w1
          have f1 : Gr wd w1 := by rw [← hw1]; exact (Fr.refl _ _).alloc _
          have N1 := Lib.hid (show News w1 wd.heap.size [.int .i64 e] by rw [← hw1]; exact news_cells _ #[.int .i64 e] _)
          have ST1 := Lib.hid (STd.out.gr f1)
          have OA1 := Lib.hid (own_fr OAd.out f1 (fun _ _ h => h))
          have NBOA1 := Lib.hid (own_not OAd.out)
          have OB1 := Lib.hid (own_fr OBd.out f1 (fun _ _ h => h))
          have NBOB1 := Lib.hid (own_not OBd.out)
          clear hw1 f1
          refine ⟨⟨⟨_, ST1.out⟩, rfl⟩, ?_⟩
          repeat (refine wpV_q (by simp only [List.getElem?_toArray, List.getElem?_cons_succ, List.getElem?_cons_zero] <;> rfl) (by rfl) (by rfl) ?_; go_big_quiet_step (exact rfl); refine wpQuiet_nil ?_)
          refine wpV_fork (by simp only [List.getElem?_toArray, List.getElem?_cons_succ, List.getElem?_cons_zero] <;> rfl) (by simp only [List.getElem?_toArray, List.getElem?_cons_succ, List.getElem?_cons_zero] <;> rfl) ?_ ?_
          · skip
            go_wp2_with (at_builtin; refine wpList_append_lies _ rfl _ _ 22 rfl (W.heap.size + 5) 3 i1 (.int .i64 0) 1 8 Try.underlying22 hi1 hi2 hi3 hi4 rfl (by decide) _ _ _ rfl OA1.out ⟨wd.heap.size, 0, none⟩ 1 1 [.int .i64 e] rfl rfl N1.out (by intro u hu; simp at hu; (first | (rcases hu with rfl | rfl | rfl | rfl | rfl | rfl) | (rcases hu with rfl | rfl) | (subst hu)) <;> rfl) (by decide) (by unfold maxLen; omega) (by omega) (by have := ST1.out.sz; omega) _ rfl ?_)
            intro g2 c2 w2 ho2 hg2 hat2 hlt2
            have f2 : Fr (fun k => Value.ownBlock (va) = some k) w1 w2 := (Fr.refl _ _).grown hg2 (fun q hq => .inl hq)
            have ST2 := Lib.hid (ST1.out.grow f2 (fun k hk => (OA1.out.lt k hk).1))
            have OB2 := Lib.hid (own_grown OB1.out hg2 (Sep.symm SE.out))
            have SE2 := Lib.hid (Sep.app (m := da.length + 1) (c := c2) SE.out OB1.out hat2)
            have OA2 := Lib.hid (show w2.ownsRow (W.heap.size + 5) 3 1 (.slice (some ⟨g2, 0, none⟩) (da.length + 1) c2) (da ++ [e]).length ((da ++ [e]).flatMap MInt.cells) by simpa using ho2)
            clear ho2 hg2 hat2 f2
            go_wp2_with fail
            refine ⟨⟨⟨_, ST2.out⟩, rfl⟩, ?_⟩
            refine wpV_e (by simp only [List.getElem?_toArray, List.getElem?_cons_succ, List.getElem?_cons_zero] <;> rfl) (by rfl) ?_
            go_wp2_with fail
            generalize hw3 : World.alloc w2 (.cells #[.int .i64 e] 3) = w3
            have f3 : Gr w2 w3 := by rw [← hw3]; exact (Fr.refl _ _).alloc _
            have N3 := Lib.hid (show News w3 w2.heap.size [.int .i64 e] by rw [← hw3]; exact news_cells _ #[.int .i64 e] _)
            have ST3 := Lib.hid (ST2.out.gr f3)
            have OA3 := Lib.hid (own_fr OA2.out f3 (fun _ _ h => h))
            have NBOA3 := Lib.hid (own_not OA2.out)
            have OB3 := Lib.hid (own_fr OB2.out f3 (fun _ _ h => h))
            have NBOB3 := Lib.hid (own_not OB2.out)
            clear hw3 f3
            refine ⟨⟨⟨_, ST3.out⟩, rfl⟩, ?_⟩
            refine wpV_e (by simp only [List.getElem?_toArray, List.getElem?_cons_succ, List.getElem?_cons_zero] <;> rfl) (by rfl) ?_
            go_wp2_with (at_builtin; refine wpList_append_lies _ rfl _ _ 22 rfl (W.heap.size + 5) 3 i1 (.int .i64 0) 1 8 Try.underlying22 hi1 hi2 hi3 hi4 rfl (by decide) _ _ _ rfl OB3.out ⟨w2.heap.size, 0, none⟩ 1 1 [.int .i64 e] rfl rfl N3.out (by intro u hu; simp at hu; (first | (rcases hu with rfl | rfl | rfl | rfl | rfl | rfl) | (rcases hu with rfl | rfl) | (subst hu)) <;> rfl) (by decide) (by unfold maxLen; omega) (by omega) (by have := ST3.out.sz; omega) _ rfl ?_)
            intro g4 c4 w4 ho4 hg4 hat4 hlt4
            have f4 : Fr (fun k => Value.ownBlock (vb) = some k) w3 w4 := (Fr.refl _ _).grown hg4 (fun q hq => .inl hq)
            have ST4 := Lib.hid (ST3.out.grow f4 (fun k hk => (OB3.out.lt k hk).1))
            have OA4 := Lib.hid (own_grown OA3.out hg4 SE2.out)
            have SE4 := Lib.hid (Sep.symm (Sep.app (m := da.length + 1) (c := c4) (Sep.symm SE2.out) OA3.out hat4))
            have OB4 := Lib.hid (show w4.ownsRow (W.heap.size + 5) 3 1 (.slice (some ⟨g4, 0, none⟩) (da.length + 1) c4) (da ++ [e]).length ((da ++ [e]).flatMap MInt.cells) by simpa using ho4)
            clear ho4 hg4 hat4 f4
            go_wp2_with fail
            refine ⟨⟨⟨_, ST4.out⟩, rfl⟩, ?_⟩
            repeat (refine wpV_q (by simp only [List.getElem?_toArray, List.getElem?_cons_succ, List.getElem?_cons_zero] <;> rfl) (by rfl) (by rfl) ?_; go_big_quiet_step (exact rfl); refine wpQuiet_nil ?_)
            refine wpV_done ?_
            refine tailT_open (fun w' => ∃ z : WC (fun _ => True), w' = z.val) ⟨⟨_, trivial⟩, rfl⟩ ?_
            repeat (refine wpT_q (by simp only [List.getElem?_toArray, List.getElem?_cons_succ, List.getElem?_cons_zero] <;> rfl) (by rfl) (by rfl) ?_; go_big_quiet_step (exact rfl); refine wpQuiet_nil ?_)
            refine wpT_e (by simp only [List.getElem?_toArray, List.getElem?_cons_succ, List.getElem?_cons_zero] <;> rfl) (by rfl) ?_
            have y := ST4.out.cellA 4 _ rfl
            have z := ST4.out.zA 4
            go_wp2_with fail
            generalize hw5 : World.setCell w4 ⟨W.heap.size + 3, 4, none⟩ (.slice (some ⟨g2, 0, none⟩) (da.length + 1) c2) = w5
            have f5 : Fr (fun k => k = W.heap.size + 3) w4 w5 := by rw [← hw5]; exact set_fr _ _ _ _
            have ST5 := Lib.hid (ST4.out.setA 4 (.slice (some ⟨g2, 0, none⟩) (da.length + 1) c2))
            rw [hw5] at ST5
            simp only [List.setIfInBounds_toArray, List.set_cons_zero, List.set_cons_succ] at ST5
            have OA5 := Lib.hid (own_low OA4.out f5 (by omega))
            have OB5 := Lib.hid (own_low OB4.out f5 (by omega))
            clear hw5 f5 y z
            refine ⟨⟨⟨_, trivial⟩, rfl⟩, ?_⟩
            repeat (refine wpT_q (by simp only [List.getElem?_toArray, List.getElem?_cons_succ, List.getElem?_cons_zero] <;> rfl) (by rfl) (by rfl) ?_; go_big_quiet_step (exact rfl); refine wpQuiet_nil ?_)
            refine wpT_e (by simp only [List.getElem?_toArray, List.getElem?_cons_succ, List.getElem?_cons_zero] <;> rfl) (by rfl) ?_
            have y := ST5.out.cellB 4 _ rfl
            have z := ST5.out.zB 4
            go_wp2_with fail
            generalize hw6 : World.setCell w5 ⟨W.heap.size + 4, 4, none⟩ (.slice (some ⟨g4, 0, none⟩) (da.length + 1) c4) = w6
            have f6 : Fr (fun k => k = W.heap.size + 4) w5 w6 := by rw [← hw6]; exact set_fr _ _ _ _
            have ST6 := Lib.hid (ST5.out.setB 4 (.slice (some ⟨g4, 0, none⟩) (da.length + 1) c4))
            rw [hw6] at ST6
            simp only [List.setIfInBounds_toArray, List.set_cons_zero, List.set_cons_succ] at ST6
            have OA6 := Lib.hid (own_low OA5.out f6 (by omega))
            have OB6 := Lib.hid (own_low OB5.out f6 (by omega))
            clear hw6 f6 y z
            refine ⟨⟨⟨_, trivial⟩, rfl⟩, ?_⟩
            refine wpT_nil ?_
            go_wp2_with fail
            go_roundw
            case rel => exact ⟨da ++ [e], _, _, by rw [List.length_append, List.length_singleton]; go_num, by rw [List.length_append, List.length_singleton]; omega, HS, ST6.out, OA6.out, OB6.out, SE4.out⟩
            case measure => simp [intOf]; omega
          · skip
            go_wp2_with fail
            generalize hw7 : World.alloc w1 (.cells #[.int .i64 e] 3) = w7
            have f7 : Gr w1 w7 := by rw [← hw7]; exact (Fr.refl _ _).alloc _
            have N7 := Lib.hid (show News w7 w1.heap.size [.int .i64 e] by rw [← hw7]; exact news_cells _ #[.int .i64 e] _)
            have ST7 := Lib.hid (ST1.out.gr f7)
            have OA7 := Lib.hid (own_fr OA1.out f7 (fun _ _ h => h))
            have NBOA7 := Lib.hid (own_not OA1.out)
            have OB7 := Lib.hid (own_fr OB1.out f7 (fun _ _ h => h))
            have NBOB7 := Lib.hid (own_not OB1.out)
            have NOA7 := Lib.hid (News.keep N1.out f7 (by intro h; exact h))
            clear hw7 f7
            refine ⟨⟨⟨_, ST7.out⟩, rfl⟩, ?_⟩
            refine wpV_e (by simp only [List.getElem?_toArray, List.getElem?_cons_succ, List.getElem?_cons_zero] <;> rfl) (by rfl) ?_
            go_wp2_with (at_builtin; refine wpList_append_lies _ rfl _ _ 22 rfl (W.heap.size + 5) 3 i1 (.int .i64 0) 1 8 Try.underlying22 hi1 hi2 hi3 hi4 rfl (by decide) _ _ _ rfl OA7.out ⟨wd.heap.size, 0, none⟩ 1 1 [.int .i64 e] rfl rfl NOA7.out (by intro u hu; simp at hu; (first | (rcases hu with rfl | rfl | rfl | rfl | rfl | rfl) | (rcases hu with rfl | rfl) | (subst hu)) <;> rfl) (by decide) (by unfold maxLen; omega) (by omega) (by have := ST7.out.sz; omega) _ rfl ?_)
            intro g8 c8 w8 ho8 hg8 hat8 hlt8
            have f8 : Fr (fun k => Value.ownBlock (va) = some k) w7 w8 := (Fr.refl _ _).grown hg8 (fun q hq => .inl hq)
            have ST8 := Lib.hid (ST7.out.grow f8 (fun k hk => (OA7.out.lt k hk).1))
            have OB8 := Lib.hid (own_grown OB7.out hg8 (Sep.symm SE.out))
            have SE8 := Lib.hid (Sep.app (m := da.length + 1) (c := c8) SE.out OB7.out hat8)
            have NOB8 := Lib.hid (News.keep N7.out f8 (by intro hq; exact NBOA7.out _ hq rfl))
            have OA8 := Lib.hid (show w8.ownsRow (W.heap.size + 5) 3 1 (.slice (some ⟨g8, 0, none⟩) (da.length + 1) c8) (da ++ [e]).length ((da ++ [e]).flatMap MInt.cells) by simpa using ho8)
            clear ho8 hg8 hat8 f8
            go_wp2_with fail
            refine ⟨⟨⟨_, ST8.out⟩, rfl⟩, ?_⟩
            refine wpV_e (by simp only [List.getElem?_toArray, List.getElem?_cons_succ, List.getElem?_cons_zero] <;> rfl) (by rfl) ?_
            go_wp2_with (at_builtin; refine wpList_append_lies _ rfl _ _ 22 rfl (W.heap.size + 5) 3 i1 (.int .i64 0) 1 8 Try.underlying22 hi1 hi2 hi3 hi4 rfl (by decide) _ _ _ rfl OB8.out ⟨w1.heap.size, 0, none⟩ 1 1 [.int .i64 e] rfl rfl NOB8.out (by intro u hu; simp at hu; (first | (rcases hu with rfl | rfl | rfl | rfl | rfl | rfl) | (rcases hu with rfl | rfl) | (subst hu)) <;> rfl) (by decide) (by unfold maxLen; omega) (by omega) (by have := ST8.out.sz; omega) _ rfl ?_)
            intro g9 c9 w9 ho9 hg9 hat9 hlt9
            have f9 : Fr (fun k => Value.ownBlock (vb) = some k) w8 w9 := (Fr.refl _ _).grown hg9 (fun q hq => .inl hq)
            have ST9 := Lib.hid (ST8.out.grow f9 (fun k hk => (OB8.out.lt k hk).1))
            have OA9 := Lib.hid (own_grown OA8.out hg9 SE8.out)
            have SE9 := Lib.hid (Sep.symm (Sep.app (m := da.length + 1) (c := c9) (Sep.symm SE8.out) OA8.out hat9))
            have OB9 := Lib.hid (show w9.ownsRow (W.heap.size + 5) 3 1 (.slice (some ⟨g9, 0, none⟩) (da.length + 1) c9) (da ++ [e]).length ((da ++ [e]).flatMap MInt.cells) by simpa using ho9)
            clear ho9 hg9 hat9 f9
            go_wp2_with fail
            refine ⟨⟨⟨_, ST9.out⟩, rfl⟩, ?_⟩
            repeat (refine wpV_q (by simp only [List.getElem?_toArray, List.getElem?_cons_succ, List.getElem?_cons_zero] <;> rfl) (by rfl) (by rfl) ?_; go_big_quiet_step (exact rfl); refine wpQuiet_nil ?_)
            refine wpV_done ?_
            refine tailT_open (fun w' => ∃ z : WC (fun _ => True), w' = z.val) ⟨⟨_, trivial⟩, rfl⟩ ?_
            repeat (refine wpT_q (by simp only [List.getElem?_toArray, List.getElem?_cons_succ, List.getElem?_cons_zero] <;> rfl) (by rfl) (by rfl) ?_; go_big_quiet_step (exact rfl); refine wpQuiet_nil ?_)
            refine wpT_e (by simp only [List.getElem?_toArray, List.getElem?_cons_succ, List.getElem?_cons_zero] <;> rfl) (by rfl) ?_
            have y := ST9.out.cellA 4 _ rfl
            have z := ST9.out.zA 4
            go_wp2_with fail
            generalize hw10 : World.setCell w9 ⟨W.heap.size + 3, 4, none⟩ (.slice (some ⟨g8, 0, none⟩) (da.length + 1) c8) = w10
            have f10 : Fr (fun k => k = W.heap.size + 3) w9 w10 := by rw [← hw10]; exact set_fr _ _ _ _
            have ST10 := Lib.hid (ST9.out.setA 4 (.slice (some ⟨g8, 0, none⟩) (da.length + 1) c8))
            rw [hw10] at ST10
            simp only [List.setIfInBounds_toArray, List.set_cons_zero, List.set_cons_succ] at ST10
            have OA10 := Lib.hid (own_low OA9.out f10 (by omega))
            have OB10 := Lib.hid (own_low OB9.out f10 (by omega))
            clear hw10 f10 y z
            refine ⟨⟨⟨_, trivial⟩, rfl⟩, ?_⟩
            repeat (refine wpT_q (by simp only [List.getElem?_toArray, List.getElem?_cons_succ, List.getElem?_cons_zero] <;> rfl) (by rfl) (by rfl) ?_; go_big_quiet_step (exact rfl); refine wpQuiet_nil ?_)
            refine wpT_e (by simp only [List.getElem?_toArray, List.getElem?_cons_succ, List.getElem?_cons_zero] <;> rfl) (by rfl) ?_
            have y := ST10.out.cellB 4 _ rfl
            have z := ST10.out.zB 4
            go_wp2_with fail
            generalize hw11 : World.setCell w10 ⟨W.heap.size + 4, 4, none⟩ (.slice (some ⟨g9, 0, none⟩) (da.length + 1) c9) = w11
            have f11 : Fr (fun k => k = W.heap.size + 4) w10 w11 := by rw [← hw11]; exact set_fr _ _ _ _
            have ST11 := Lib.hid (ST10.out.setB 4 (.slice (some ⟨g9, 0, none⟩) (da.length + 1) c9))
            rw [hw11] at ST11
            simp only [List.setIfInBounds_toArray, List.set_cons_zero, List.set_cons_succ] at ST11
            have OA11 := Lib.hid (own_low OA10.out f11 (by omega))
            have OB11 := Lib.hid (own_low OB10.out f11 (by omega))
            clear hw11 f11 y z
            refine ⟨⟨⟨_, trivial⟩, rfl⟩, ?_⟩
            refine wpT_nil ?_
            go_wp2_with fail
            go_roundw
            case rel => exact ⟨da ++ [e], _, _, by rw [List.length_append, List.length_singleton]; go_num, by rw [List.length_append, List.length_singleton]; omega, HS, ST11.out, OA11.out, OB11.out, SE9.out⟩
            case measure => simp [intOf]; omega
        · skip
          go_wp2_with fail
          generalize hw12 : World.alloc wd (.cells #[.int .i64 e] 3) = w12
          have f12 : Gr wd w12 := by rw [← hw12]; exact (Fr.refl _ _).alloc _
          have N12 := Lib.hid (show News w12 wd.heap.size [.int .i64 e] by rw [← hw12]; exact news_cells _ #[.int .i64 e] _)
          have ST12 := Lib.hid (STd.out.gr f12)
          have OA12 := Lib.hid (own_fr OAd.out f12 (fun _ _ h => h))
          have NBOA12 := Lib.hid (own_not OAd.out)
          have OB12 := Lib.hid (own_fr OBd.out f12 (fun _ _ h => h))
          have NBOB12 := Lib.hid (own_not OBd.out)
          clear hw12 f12
          refine ⟨⟨⟨_, ST12.out⟩, rfl⟩, ?_⟩
          refine wpV_e (by simp only [List.getElem?_toArray, List.getElem?_cons_succ, List.getElem?_cons_zero] <;> rfl) (by rfl) ?_
          go_wp2_with fail
          generalize hw13 : World.alloc w12 (.cells #[.int .i64 e] 3) = w13
          have f13 : Gr w12 w13 := by rw [← hw13]; exact (Fr.refl _ _).alloc _
          have N13 := Lib.hid (show News w13 w12.heap.size [.int .i64 e] by rw [← hw13]; exact news_cells _ #[.int .i64 e] _)
          have ST13 := Lib.hid (ST12.out.gr f13)
          have OA13 := Lib.hid (own_fr OA12.out f13 (fun _ _ h => h))
          have NBOA13 := Lib.hid (own_not OA12.out)
          have OB13 := Lib.hid (own_fr OB12.out f13 (fun _ _ h => h))
          have NBOB13 := Lib.hid (own_not OB12.out)
          have NOB13 := Lib.hid (News.keep N12.out f13 (by intro h; exact h))
          clear hw13 f13
          refine ⟨⟨⟨_, ST13.out⟩, rfl⟩, ?_⟩
          refine wpV_e (by simp only [List.getElem?_toArray, List.getElem?_cons_succ, List.getElem?_cons_zero] <;> rfl) (by rfl) ?_
          go_wp2_with (at_builtin; refine wpList_append_lies _ rfl _ _ 22 rfl (W.heap.size + 5) 3 i1 (.int .i64 0) 1 8 Try.underlying22 hi1 hi2 hi3 hi4 rfl (by decide) _ _ _ rfl OA13.out ⟨w12.heap.size, 0, none⟩ 1 1 [.int .i64 e] rfl rfl N13.out (by intro u hu; simp at hu; (first | (rcases hu with rfl | rfl | rfl | rfl | rfl | rfl) | (rcases hu with rfl | rfl) | (subst hu)) <;> rfl) (by decide) (by unfold maxLen; omega) (by omega) (by have := ST13.out.sz; omega) _ rfl ?_)
          intro g14 c14 w14 ho14 hg14 hat14 hlt14
          have f14 : Fr (fun k => Value.ownBlock (va) = some k) w13 w14 := (Fr.refl _ _).grown hg14 (fun q hq => .inl hq)
          have ST14 := Lib.hid (ST13.out.grow f14 (fun k hk => (OA13.out.lt k hk).1))
          have OB14 := Lib.hid (own_grown OB13.out hg14 (Sep.symm SE.out))
          have SE14 := Lib.hid (Sep.app (m := da.length + 1) (c := c14) SE.out OB13.out hat14)
          have NOB14 := Lib.hid (News.keep NOB13.out f14 (by intro hq; exact NBOA12.out _ hq rfl))
          have OA14 := Lib.hid (show w14.ownsRow (W.heap.size + 5) 3 1 (.slice (some ⟨g14, 0, none⟩) (da.length + 1) c14) (da ++ [e]).length ((da ++ [e]).flatMap MInt.cells) by simpa using ho14)
          clear ho14 hg14 hat14 f14
          go_wp2_with fail
          refine ⟨⟨⟨_, ST14.out⟩, rfl⟩, ?_⟩
          refine wpV_e (by simp only [List.getElem?_toArray, List.getElem?_cons_succ, List.getElem?_cons_zero] <;> rfl) (by rfl) ?_
          go_wp2_with (at_builtin; refine wpList_append_lies _ rfl _ _ 22 rfl (W.heap.size + 5) 3 i1 (.int .i64 0) 1 8 Try.underlying22 hi1 hi2 hi3 hi4 rfl (by decide) _ _ _ rfl OB14.out ⟨wd.heap.size, 0, none⟩ 1 1 [.int .i64 e] rfl rfl NOB14.out (by intro u hu; simp at hu; (first | (rcases hu with rfl | rfl | rfl | rfl | rfl | rfl) | (rcases hu with rfl | rfl) | (subst hu)) <;> rfl) (by decide) (by unfold maxLen; omega) (by omega) (by have := ST14.out.sz; omega) _ rfl ?_)
          intro g15 c15 w15 ho15 hg15 hat15 hlt15
          have f15 : Fr (fun k => Value.ownBlock (vb) = some k) w14 w15 := (Fr.refl _ _).grown hg15 (fun q hq => .inl hq)
          have ST15 := Lib.hid (ST14.out.grow f15 (fun k hk => (OB14.out.lt k hk).1))
          have OA15 := Lib.hid (own_grown OA14.out hg15 SE14.out)
          have SE15 := Lib.hid (Sep.symm (Sep.app (m := da.length + 1) (c := c15) (Sep.symm SE14.out) OA14.out hat15))
          have OB15 := Lib.hid (show w15.ownsRow (W.heap.size + 5) 3 1 (.slice (some ⟨g15, 0, none⟩) (da.length + 1) c15) (da ++ [e]).length ((da ++ [e]).flatMap MInt.cells) by simpa using ho15)
          clear ho15 hg15 hat15 f15
          go_wp2_with fail
          refine ⟨⟨⟨_, ST15.out⟩, rfl⟩, ?_⟩
          repeat (refine wpV_q (by simp only [List.getElem?_toArray, List.getElem?_cons_succ, List.getElem?_cons_zero] <;> rfl) (by rfl) (by rfl) ?_; go_big_quiet_step (exact rfl); refine wpQuiet_nil ?_)
          refine wpV_done ?_
          refine tailT_open (fun w' => ∃ z : WC (fun _ => True), w' = z.val) ⟨⟨_, trivial⟩, rfl⟩ ?_
          repeat (refine wpT_q (by simp only [List.getElem?_toArray, List.getElem?_cons_succ, List.getElem?_cons_zero] <;> rfl) (by rfl) (by rfl) ?_; go_big_quiet_step (exact rfl); refine wpQuiet_nil ?_)
          refine wpT_e (by simp only [List.getElem?_toArray, List.getElem?_cons_succ, List.getElem?_cons_zero] <;> rfl) (by rfl) ?_
          have y := ST15.out.cellA 4 _ rfl
          have z := ST15.out.zA 4
          go_wp2_with fail
          generalize hw16 : World.setCell w15 ⟨W.heap.size + 3, 4, none⟩ (.slice (some ⟨g14, 0, none⟩) (da.length + 1) c14) = w16
          have f16 : Fr (fun k => k = W.heap.size + 3) w15 w16 := by rw [← hw16]; exact set_fr _ _ _ _
          have ST16 := Lib.hid (ST15.out.setA 4 (.slice (some ⟨g14, 0, none⟩) (da.length + 1) c14))
          rw [hw16] at ST16
          simp only [List.setIfInBounds_toArray, List.set_cons_zero, List.set_cons_succ] at ST16
          have OA16 := Lib.hid (own_low OA15.out f16 (by omega))
          have OB16 := Lib.hid (own_low OB15.out f16 (by omega))
          clear hw16 f16 y z
          refine ⟨⟨⟨_, trivial⟩, rfl⟩, ?_⟩
          repeat (refine wpT_q (by simp only [List.getElem?_toArray, List.getElem?_cons_succ, List.getElem?_cons_zero] <;> rfl) (by rfl) (by rfl) ?_; go_big_quiet_step (exact rfl); refine wpQuiet_nil ?_)
          refine wpT_e (by simp only [List.getElem?_toArray, List.getElem?_cons_succ, List.getElem?_cons_zero] <;> rfl) (by rfl) ?_
          have y := ST16.out.cellB 4 _ rfl
          have z := ST16.out.zB 4
          go_wp2_with fail
          generalize hw17 : World.setCell w16 ⟨W.heap.size + 4, 4, none⟩ (.slice (some ⟨g15, 0, none⟩) (da.length + 1) c15) = w17
          have f17 : Fr (fun k => k = W.heap.size + 4) w16 w17 := by rw [← hw17]; exact set_fr _ _ _ _
          have ST17 := Lib.hid (ST16.out.setB 4 (.slice (some ⟨g15, 0, none⟩) (da.length + 1) c15))
          rw [hw17] at ST17
          simp only [List.setIfInBounds_toArray, List.set_cons_zero, List.set_cons_succ] at ST17
          have OA17 := Lib.hid (own_low OA16.out f17 (by omega))
          have OB17 := Lib.hid (own_low OB16.out f17 (by omega))
          clear hw17 f17 y z
          refine ⟨⟨⟨_, trivial⟩, rfl⟩, ?_⟩
          refine wpT_nil ?_
          go_wp2_with fail
          go_roundw
          case rel => exact ⟨da ++ [e], _, _, by rw [List.length_append, List.length_singleton]; go_num, by rw [List.length_append, List.length_singleton]; omega, HS, ST17.out, OA17.out, OB17.out, SE15.out⟩
          case measure => simp [intOf]; omega
      · rw [decide_eq_false hlt]
        have HDA : Hid (da = x.nodes.take 70) := Lib.hid (done_of HD.out HN1.out hk hlt)
        obtain ⟨aa, ca, rfl, -, -, -⟩ := SlA.of_own OA.out
        obtain ⟨ab, cb, rfl, -, -, -⟩ := SlA.of_own OB.out
        go_wp2_with fail
        clear hlt hk HD y4
        go_loopw [7] (fun iv wr => ∃ (di : List MId) (va vb : Value), iv = .int .i64 di.length ∧ di.length ≤ n2 ∧ Hid (di = (x.ids.take di.length).map LId) ∧ BothSt W x xp #[.int .i64 x.kind, .int .i64 x.node, .int .i64 x.walk, .bool x.high, .slice aa da.length ca, va, .slice none 0 0] #[.int .i64 x.kind, .int .i64 x.node, .int .i64 x.walk, .bool x.high, .slice ab da.length cb, vb, .slice none 0 0] wr ∧ wr.ownsRow (W.heap.size + 5) 3 1 (.slice aa da.length ca) da.length (da.flatMap MInt.cells) ∧ wr.ownsRow (W.heap.size + 5) 3 1 (.slice ab da.length cb) da.length (da.flatMap MInt.cells) ∧ wr.ownsRow (W.heap.size + 5) 121 2 va di.length (di.flatMap MId.cells) ∧ wr.ownsRow (W.heap.size + 5) 126 2 vb di.length (di.flatMap MId.cells)) (fun iv _ => n2 - (intOf iv).toNat)
        case atStart => exact ⟨[], _, _, rfl, Nat.zero_le _, Lib.hid rfl, ST.out, OA.out, OB.out, World.ownsRow_nil _ _ _ _, World.ownsRow_nil _ _ _ _⟩
        case round =>
          clear ST OA OB SE
          obtain ⟨di, va, vb, rfl, hk, HD, hst, hoa, hob, hia, hib⟩ := hrel
          have ST := Lib.hid hst
          have OA := Lib.hid hoa
          have OB := Lib.hid hob
          have IA := Lib.hid hia
          have IB := Lib.hid hib
          clear hst hoa hob hia hib
          have y4 := ST.out.bx 5 _ rfl
          go_upto_region 8 with fail
          go_cut [68] from 60 to 68 (fun c wx => c = .bool (decide (di.length < n2)) ∧ wr = wx)
          case first =>
            by_cases h1 : (di.length : Int) < (x.ids.length : Int)
            · by_cases h2 : (di.length : Int) < 70
              · have hd := Lib.hid (show decide (di.length < n2) = true by have := HN2.out; simp; omega)
                go_wp2_with fail
                go_meet
                exact ⟨by rw [hd.out], rfl⟩
              · have hd := Lib.hid (show decide (di.length < n2) = false by have := HN2.out; simp; omega)
                go_wp2_with fail
                go_meet
                exact ⟨by rw [hd.out], rfl⟩
            · have hd := Lib.hid (show decide (di.length < n2) = false by have := HN2.out; simp; omega)
              go_wp2_with fail
              go_meet
              exact ⟨by rw [hd.out], rfl⟩
          case rest =>
            obtain ⟨rfl, rfl⟩ := hcut
            by_cases hlt : di.length < n2
            · rw [decide_eq_true hlt]
              obtain ⟨bb, o, ea, hc0, hc1⟩ := HX.out.id di.length (by omega)
              have HS : Hid (di ++ [LId x.ids[di.length]] = (x.ids.take (di ++ [LId x.ids[di.length]]).length).map LId) := Lib.hid (snoc_of LId HD.out (by omega))
              obtain ⟨hkz, hv0, hv1⟩ := HOK.out.ids _ (List.getElem_mem (show di.length < x.ids.length by omega))
              generalize x.ids[di.length] = e at *
              obtain ⟨mm, hm1', hm2', hite, hmin, hext⟩ := cut_min e.key hkz
              have HEXT := Lib.hid hext
              clear hext
              haveI : Nonempty (WC (BothSt W x xp #[.int .i64 x.kind, .int .i64 x.node, .int .i64 x.walk, .bool x.high, .slice aa da.length ca, va, .slice none 0 0] #[.int .i64 x.kind, .int .i64 x.node, .int .i64 x.walk, .bool x.high, .slice ab da.length cb, vb, .slice none 0 0])) := ⟨⟨_, ST.out⟩⟩
              have x1 : ∀ z : WC (BothSt W x xp #[.int .i64 x.kind, .int .i64 x.node, .int .i64 x.walk, .bool x.high, .slice aa da.length ca, va, .slice none 0 0] #[.int .i64 x.kind, .int .i64 x.node, .int .i64 x.walk, .bool x.high, .slice ab da.length cb, vb, .slice none 0 0]), z.val.cell? ⟨W.heap.size, 5, none⟩ = some (.slice (some ⟨bb, o, none⟩) x.ids.length xp.c2) := fun z => by rw [← ea]; exact z.ok.bx 5 _ rfl
              have x2 : ∀ z : WC (BothSt W x xp #[.int .i64 x.kind, .int .i64 x.node, .int .i64 x.walk, .bool x.high, .slice aa da.length ca, va, .slice none 0 0] #[.int .i64 x.kind, .int .i64 x.node, .int .i64 x.walk, .bool x.high, .slice ab da.length cb, vb, .slice none 0 0]), z.val.cell? ⟨bb, o + di.length * 6, none⟩ = some (.string e.key) := fun z => z.ok.fr.cell hc0 (fun h => h)
              have x5 : ∀ z : WC (BothSt W x xp #[.int .i64 x.kind, .int .i64 x.node, .int .i64 x.walk, .bool x.high, .slice aa da.length ca, va, .slice none 0 0] #[.int .i64 x.kind, .int .i64 x.node, .int .i64 x.walk, .bool x.high, .slice ab da.length cb, vb, .slice none 0 0]), z.val.cell? ⟨bb, o + di.length * 6 + 1, none⟩ = some (.int .u64 e.ver) := fun z => z.ok.fr.cell hc1 (fun h => h)
              have x3 : ∀ z : WC (BothSt W x xp #[.int .i64 x.kind, .int .i64 x.node, .int .i64 x.walk, .bool x.high, .slice aa da.length ca, va, .slice none 0 0] #[.int .i64 x.kind, .int .i64 x.node, .int .i64 x.walk, .bool x.high, .slice ab da.length cb, vb, .slice none 0 0]), z.val.cell? ⟨W.heap.size + 3, 5, none⟩ = some va := fun z => z.ok.cellA 5 _ rfl
              have x4 : ∀ z : WC (BothSt W x xp #[.int .i64 x.kind, .int .i64 x.node, .int .i64 x.walk, .bool x.high, .slice aa da.length ca, va, .slice none 0 0] #[.int .i64 x.kind, .int .i64 x.node, .int .i64 x.walk, .bool x.high, .slice ab da.length cb, vb, .slice none 0 0]), z.val.cell? ⟨W.heap.size + 4, 5, none⟩ = some vb := fun z => z.ok.cellB 5 _ rfl
              clear hc0 hc1 ea y4
              go_wp2_with fail
              refine wp_region_text [] [] (fun w' => ∃ z : WC (BothSt W x xp #[.int .i64 x.kind, .int .i64 x.node, .int .i64 x.walk, .bool x.high, .slice aa da.length ca, va, .slice none 0 0] #[.int .i64 x.kind, .int .i64 x.node, .int .i64 x.walk, .bool x.high, .slice ab da.length cb, vb, .slice none 0 0]), w' = z.val) (by kernel_rfl) (by kernel_rfl) (fun c a w d v h => by cases d <;> exact h) (fun c a w d v h => by cases d <;> exact h) ⟨⟨_, ST.out.drew⟩, rfl⟩ ?_
              repeat (refine wpU_q (by rfl) (by rfl) ?_; go_big_quiet_step (exact rfl); refine wpQuiet_nil ?_)
              refine wpU_nil ?_
              rw [HEXT.out]
              have hks := cutS_size e.key
              obtain ⟨ks, hk2⟩ : ∃ ks, ks = cutS e.key := ⟨_, rfl⟩
              rw [← hk2] at hks ⊢
              have HKS := Lib.hid (show LId e = ⟨ks, e.ver⟩ by rw [hk2]; rfl)
              clear hk2 HEXT
              obtain ⟨wd, hwd⟩ : ∃ wd, wd = wr.drew.drew := ⟨_, rfl⟩
              have fd : Gr wr wd := by rw [hwd]; exact ((Fr.refl _ _).drew).drew
              have STd := Lib.hid (ST.out.gr fd)
              have OAd := Lib.hid (own_fr OA.out fd (fun _ _ h => h))
              have OBd := Lib.hid (own_fr OB.out fd (fun _ _ h => h))
              have IAd := Lib.hid (own_fr IA.out fd (fun _ _ h => h))
              have IBd := Lib.hid (own_fr IB.out fd (fun _ _ h => h))
              have HWD := Lib.hid hwd
              clear fd hwd hite hmin
              go_wp2_with fail
              refine wp_region_tail 25 3 [10, 11, 22, 23] (.take 0 (.take 1 (.take 2 (.take 3 (.take 4 (.take 5 (.take 6 (.take 7 (.take 8 (.take 9 (.take 12 (.take 13 (.take 14 (.take 15 (.take 16 (.take 17 (.take 18 (.take 19 (.take 20 (.take 21 (.fork 10 22 (.fork 11 22 (.take 22 (.take 23 (.take 24 .done))) (.take 11 (.take 23 (.take 24 .done)))) (.take 10 (.take 11 (.take 23 (.take 24 .done))))))))))))))))))))))))) [25, 27] [25, 26, 27] (fun w' => ∃ z : WC (BothSt W x xp #[.int .i64 x.kind, .int .i64 x.node, .int .i64 x.walk, .bool x.high, .slice aa da.length ca, va, .slice none 0 0] #[.int .i64 x.kind, .int .i64 x.node, .int .i64 x.walk, .bool x.high, .slice ab da.length cb, vb, .slice none 0 0]), w' = z.val) (by kernel_rfl) (by kernel_rfl) (fun c a w d v h => by cases d <;> exact h) (fun c a w d v h => by cases d <;> exact h) ⟨⟨_, ST.out.drew.drew⟩, rfl⟩ ?_
              simp only [List.take]
              first | rw [← HWD.out] | (rw [show World.drewN wr 2 = wr.drew.drew from rfl, ← HWD.out])
              clear HWD
              repeat (refine wpV_q (by simp only [List.getElem?_toArray, List.getElem?_cons_succ, List.getElem?_cons_zero] <;> rfl) (by rfl) (by rfl) ?_; go_big_quiet_step (exact rfl); refine wpQuiet_nil ?_)
              refine wpV_fork (by simp only [List.getElem?_toArray, List.getElem?_cons_succ, List.getElem?_cons_zero] <;> rfl) (by simp only [List.getElem?_toArray, List.getElem?_cons_succ, List.getElem?_cons_zero] <;> rfl) ?_ ?_
              · skip
                go_wp2_with fail
                generalize hw18 : World.alloc wd (.cells #[.string ks, .int .u64 e.ver] 121) = w18
                have f18 : Gr wd w18 := by rw [← hw18]; exact (Fr.refl _ _).alloc _
                have N18 := Lib.hid (show News w18 wd.heap.size [.string ks, .int .u64 e.ver] by rw [← hw18]; exact news_cells _ #[.string ks, .int .u64 e.ver] _)
                have ST18 := Lib.hid (STd.out.gr f18)
                have OA18 := Lib.hid (own_fr OAd.out f18 (fun _ _ h => h))
                have NBOA18 := Lib.hid (own_not OAd.out)
                have OB18 := Lib.hid (own_fr OBd.out f18 (fun _ _ h => h))
                have NBOB18 := Lib.hid (own_not OBd.out)
                have IA18 := Lib.hid (own_fr IAd.out f18 (fun _ _ h => h))
                have NBIA18 := Lib.hid (own_not IAd.out)
                have IB18 := Lib.hid (own_fr IBd.out f18 (fun _ _ h => h))
                have NBIB18 := Lib.hid (own_not IBd.out)
                clear hw18 f18
                refine ⟨⟨⟨_, ST18.out⟩, rfl⟩, ?_⟩
                repeat (refine wpV_q (by simp only [List.getElem?_toArray, List.getElem?_cons_succ, List.getElem?_cons_zero] <;> rfl) (by rfl) (by rfl) ?_; go_big_quiet_step (exact rfl); refine wpQuiet_nil ?_)
                refine wpV_fork (by simp only [List.getElem?_toArray, List.getElem?_cons_succ, List.getElem?_cons_zero] <;> rfl) (by simp only [List.getElem?_toArray, List.getElem?_cons_succ, List.getElem?_cons_zero] <;> rfl) ?_ ?_
                · skip
                  go_wp2_with (at_builtin; refine wpList_append_lies _ rfl _ _ 27 rfl (W.heap.size + 5) 121 i2 (.agg #[.string ⟨#[]⟩, .int .u64 0]) 2 24 Try.underlying27 hj1 hj2 hj3 hj4 rfl (by decide) _ _ _ rfl IA18.out ⟨wd.heap.size, 0, none⟩ 1 1 [.string ks, .int .u64 e.ver] rfl rfl N18.out (by intro u hu; simp at hu; (first | (rcases hu with rfl | rfl | rfl | rfl | rfl | rfl) | (rcases hu with rfl | rfl) | (subst hu)) <;> rfl) (by decide) (by unfold maxLen; omega) (by omega) (by have := ST18.out.sz; omega) _ rfl ?_)
                  intro g19 c19 w19 ho19 hg19 hat19 hlt19
                  have f19 : Fr (fun k => Value.ownBlock (va) = some k) w18 w19 := (Fr.refl _ _).grown hg19 (fun q hq => .inl hq)
                  have ST19 := Lib.hid (ST18.out.grow f19 (fun k hk => (IA18.out.lt k hk).1))
                  have OA19 := Lib.hid (own_grown OA18.out hg19 (own_sep OA18.out IA18.out (by decide)))
                  have OB19 := Lib.hid (own_grown OB18.out hg19 (own_sep OB18.out IA18.out (by decide)))
                  have IB19 := Lib.hid (own_grown IB18.out hg19 (own_sep IB18.out IA18.out (by decide)))
                  have IA19 := Lib.hid (show w19.ownsRow (W.heap.size + 5) 121 2 (.slice (some ⟨g19, 0, none⟩) (di.length + 1) c19) (di ++ [(⟨ks, e.ver⟩ : MId)]).length ((di ++ [(⟨ks, e.ver⟩ : MId)]).flatMap MId.cells) by simpa using ho19)
                  clear ho19 hg19 hat19 f19
                  go_wp2_with fail
                  refine ⟨⟨⟨_, ST19.out⟩, rfl⟩, ?_⟩
                  refine wpV_e (by simp only [List.getElem?_toArray, List.getElem?_cons_succ, List.getElem?_cons_zero] <;> rfl) (by rfl) ?_
                  go_wp2_with fail
                  generalize hw20 : World.alloc w19 (.cells #[.string ks, .int .u64 e.ver] 126) = w20
                  have f20 : Gr w19 w20 := by rw [← hw20]; exact (Fr.refl _ _).alloc _
                  have N20 := Lib.hid (show News w20 w19.heap.size [.string ks, .int .u64 e.ver] by rw [← hw20]; exact news_cells _ #[.string ks, .int .u64 e.ver] _)
                  have ST20 := Lib.hid (ST19.out.gr f20)
                  have OA20 := Lib.hid (own_fr OA19.out f20 (fun _ _ h => h))
                  have NBOA20 := Lib.hid (own_not OA19.out)
                  have OB20 := Lib.hid (own_fr OB19.out f20 (fun _ _ h => h))
                  have NBOB20 := Lib.hid (own_not OB19.out)
                  have IA20 := Lib.hid (own_fr IA19.out f20 (fun _ _ h => h))
                  have NBIA20 := Lib.hid (own_not IA19.out)
                  have IB20 := Lib.hid (own_fr IB19.out f20 (fun _ _ h => h))
                  have NBIB20 := Lib.hid (own_not IB19.out)
                  clear hw20 f20
                  refine ⟨⟨⟨_, ST20.out⟩, rfl⟩, ?_⟩
                  refine wpV_e (by simp only [List.getElem?_toArray, List.getElem?_cons_succ, List.getElem?_cons_zero] <;> rfl) (by rfl) ?_
                  go_wp2_with (at_builtin; refine wpList_append_lies _ rfl _ _ 31 rfl (W.heap.size + 5) 126 i4 (.agg #[.string ⟨#[]⟩, .int .u64 0]) 2 24 Try.underlying31 hm1 hm2 hm3 hm4 rfl (by decide) _ _ _ rfl IB20.out ⟨w19.heap.size, 0, none⟩ 1 1 [.string ks, .int .u64 e.ver] rfl rfl N20.out (by intro u hu; simp at hu; (first | (rcases hu with rfl | rfl | rfl | rfl | rfl | rfl) | (rcases hu with rfl | rfl) | (subst hu)) <;> rfl) (by decide) (by unfold maxLen; omega) (by omega) (by have := ST20.out.sz; omega) _ rfl ?_)
                  intro g21 c21 w21 ho21 hg21 hat21 hlt21
                  have f21 : Fr (fun k => Value.ownBlock (vb) = some k) w20 w21 := (Fr.refl _ _).grown hg21 (fun q hq => .inl hq)
                  have ST21 := Lib.hid (ST20.out.grow f21 (fun k hk => (IB20.out.lt k hk).1))
                  have OA21 := Lib.hid (own_grown OA20.out hg21 (own_sep OA20.out IB20.out (by decide)))
                  have OB21 := Lib.hid (own_grown OB20.out hg21 (own_sep OB20.out IB20.out (by decide)))
                  have IA21 := Lib.hid (own_grown IA20.out hg21 (own_sep IA20.out IB20.out (by decide)))
                  have IB21 := Lib.hid (show w21.ownsRow (W.heap.size + 5) 126 2 (.slice (some ⟨g21, 0, none⟩) (di.length + 1) c21) (di ++ [(⟨ks, e.ver⟩ : MId)]).length ((di ++ [(⟨ks, e.ver⟩ : MId)]).flatMap MId.cells) by simpa using ho21)
                  clear ho21 hg21 hat21 f21
                  go_wp2_with fail
                  refine ⟨⟨⟨_, ST21.out⟩, rfl⟩, ?_⟩
                  repeat (refine wpV_q (by simp only [List.getElem?_toArray, List.getElem?_cons_succ, List.getElem?_cons_zero] <;> rfl) (by rfl) (by rfl) ?_; go_big_quiet_step (exact rfl); refine wpQuiet_nil ?_)
                  refine wpV_done ?_
                  refine tailT_open (fun w' => ∃ z : WC (fun _ => True), w' = z.val) ⟨⟨_, trivial⟩, rfl⟩ ?_
                  repeat (refine wpT_q (by simp only [List.getElem?_toArray, List.getElem?_cons_succ, List.getElem?_cons_zero] <;> rfl) (by rfl) (by rfl) ?_; go_big_quiet_step (exact rfl); refine wpQuiet_nil ?_)
                  refine wpT_e (by simp only [List.getElem?_toArray, List.getElem?_cons_succ, List.getElem?_cons_zero] <;> rfl) (by rfl) ?_
                  have y := ST21.out.cellA 5 _ rfl
                  have z := ST21.out.zA 5
                  go_wp2_with fail
                  generalize hw22 : World.setCell w21 ⟨W.heap.size + 3, 5, none⟩ (.slice (some ⟨g19, 0, none⟩) (di.length + 1) c19) = w22
                  have f22 : Fr (fun k => k = W.heap.size + 3) w21 w22 := by rw [← hw22]; exact set_fr _ _ _ _
                  have ST22 := Lib.hid (ST21.out.setA 5 (.slice (some ⟨g19, 0, none⟩) (di.length + 1) c19))
                  rw [hw22] at ST22
                  simp only [List.setIfInBounds_toArray, List.set_cons_zero, List.set_cons_succ] at ST22
                  have OA22 := Lib.hid (own_low OA21.out f22 (by omega))
                  have OB22 := Lib.hid (own_low OB21.out f22 (by omega))
                  have IA22 := Lib.hid (own_low IA21.out f22 (by omega))
                  have IB22 := Lib.hid (own_low IB21.out f22 (by omega))
                  clear hw22 f22 y z
                  refine ⟨⟨⟨_, trivial⟩, rfl⟩, ?_⟩
                  repeat (refine wpT_q (by simp only [List.getElem?_toArray, List.getElem?_cons_succ, List.getElem?_cons_zero] <;> rfl) (by rfl) (by rfl) ?_; go_big_quiet_step (exact rfl); refine wpQuiet_nil ?_)
                  refine wpT_e (by simp only [List.getElem?_toArray, List.getElem?_cons_succ, List.getElem?_cons_zero] <;> rfl) (by rfl) ?_
                  have y := ST22.out.cellB 5 _ rfl
                  have z := ST22.out.zB 5
                  go_wp2_with fail
                  generalize hw23 : World.setCell w22 ⟨W.heap.size + 4, 5, none⟩ (.slice (some ⟨g21, 0, none⟩) (di.length + 1) c21) = w23
                  have f23 : Fr (fun k => k = W.heap.size + 4) w22 w23 := by rw [← hw23]; exact set_fr _ _ _ _
                  have ST23 := Lib.hid (ST22.out.setB 5 (.slice (some ⟨g21, 0, none⟩) (di.length + 1) c21))
                  rw [hw23] at ST23
                  simp only [List.setIfInBounds_toArray, List.set_cons_zero, List.set_cons_succ] at ST23
                  have OA23 := Lib.hid (own_low OA22.out f23 (by omega))
                  have OB23 := Lib.hid (own_low OB22.out f23 (by omega))
                  have IA23 := Lib.hid (own_low IA22.out f23 (by omega))
                  have IB23 := Lib.hid (own_low IB22.out f23 (by omega))
                  clear hw23 f23 y z
                  refine ⟨⟨⟨_, trivial⟩, rfl⟩, ?_⟩
                  refine wpT_nil ?_
                  go_wp2_with fail
                  go_roundw
                  case rel => exact ⟨di ++ [(⟨ks, e.ver⟩ : MId)], _, _, by rw [List.length_append, List.length_singleton]; go_num, by rw [List.length_append, List.length_singleton]; omega, Lib.hid (by have := HS.out; rwa [HKS.out] at this), ST23.out, OA23.out, OB23.out, IA23.out, IB23.out⟩
                  case measure => simp [intOf]; omega
                · skip
                  go_wp2_with fail
                  generalize hw24 : World.alloc w18 (.cells #[.string ks, .int .u64 e.ver] 126) = w24
                  have f24 : Gr w18 w24 := by rw [← hw24]; exact (Fr.refl _ _).alloc _
                  have N24 := Lib.hid (show News w24 w18.heap.size [.string ks, .int .u64 e.ver] by rw [← hw24]; exact news_cells _ #[.string ks, .int .u64 e.ver] _)
                  have ST24 := Lib.hid (ST18.out.gr f24)
                  have OA24 := Lib.hid (own_fr OA18.out f24 (fun _ _ h => h))
                  have NBOA24 := Lib.hid (own_not OA18.out)
                  have OB24 := Lib.hid (own_fr OB18.out f24 (fun _ _ h => h))
                  have NBOB24 := Lib.hid (own_not OB18.out)
                  have IA24 := Lib.hid (own_fr IA18.out f24 (fun _ _ h => h))
                  have NBIA24 := Lib.hid (own_not IA18.out)
                  have IB24 := Lib.hid (own_fr IB18.out f24 (fun _ _ h => h))
                  have NBIB24 := Lib.hid (own_not IB18.out)
                  have NIA24 := Lib.hid (News.keep N18.out f24 (by intro h; exact h))
                  clear hw24 f24
                  refine ⟨⟨⟨_, ST24.out⟩, rfl⟩, ?_⟩
                  refine wpV_e (by simp only [List.getElem?_toArray, List.getElem?_cons_succ, List.getElem?_cons_zero] <;> rfl) (by rfl) ?_
                  go_wp2_with (at_builtin; refine wpList_append_lies _ rfl _ _ 27 rfl (W.heap.size + 5) 121 i2 (.agg #[.string ⟨#[]⟩, .int .u64 0]) 2 24 Try.underlying27 hj1 hj2 hj3 hj4 rfl (by decide) _ _ _ rfl IA24.out ⟨wd.heap.size, 0, none⟩ 1 1 [.string ks, .int .u64 e.ver] rfl rfl NIA24.out (by intro u hu; simp at hu; (first | (rcases hu with rfl | rfl | rfl | rfl | rfl | rfl) | (rcases hu with rfl | rfl) | (subst hu)) <;> rfl) (by decide) (by unfold maxLen; omega) (by omega) (by have := ST24.out.sz; omega) _ rfl ?_)
                  intro g25 c25 w25 ho25 hg25 hat25 hlt25
                  have f25 : Fr (fun k => Value.ownBlock (va) = some k) w24 w25 := (Fr.refl _ _).grown hg25 (fun q hq => .inl hq)
                  have ST25 := Lib.hid (ST24.out.grow f25 (fun k hk => (IA24.out.lt k hk).1))
                  have OA25 := Lib.hid (own_grown OA24.out hg25 (own_sep OA24.out IA24.out (by decide)))
                  have OB25 := Lib.hid (own_grown OB24.out hg25 (own_sep OB24.out IA24.out (by decide)))
                  have IB25 := Lib.hid (own_grown IB24.out hg25 (own_sep IB24.out IA24.out (by decide)))
                  have NIB25 := Lib.hid (News.keep N24.out f25 (by intro hq; exact NBIA24.out _ hq rfl))
                  have IA25 := Lib.hid (show w25.ownsRow (W.heap.size + 5) 121 2 (.slice (some ⟨g25, 0, none⟩) (di.length + 1) c25) (di ++ [(⟨ks, e.ver⟩ : MId)]).length ((di ++ [(⟨ks, e.ver⟩ : MId)]).flatMap MId.cells) by simpa using ho25)
                  clear ho25 hg25 hat25 f25
                  go_wp2_with fail
                  refine ⟨⟨⟨_, ST25.out⟩, rfl⟩, ?_⟩
                  refine wpV_e (by simp only [List.getElem?_toArray, List.getElem?_cons_succ, List.getElem?_cons_zero] <;> rfl) (by rfl) ?_
                  go_wp2_with (at_builtin; refine wpList_append_lies _ rfl _ _ 31 rfl (W.heap.size + 5) 126 i4 (.agg #[.string ⟨#[]⟩, .int .u64 0]) 2 24 Try.underlying31 hm1 hm2 hm3 hm4 rfl (by decide) _ _ _ rfl IB25.out ⟨w18.heap.size, 0, none⟩ 1 1 [.string ks, .int .u64 e.ver] rfl rfl NIB25.out (by intro u hu; simp at hu; (first | (rcases hu with rfl | rfl | rfl | rfl | rfl | rfl) | (rcases hu with rfl | rfl) | (subst hu)) <;> rfl) (by decide) (by unfold maxLen; omega) (by omega) (by have := ST25.out.sz; omega) _ rfl ?_)
                  intro g26 c26 w26 ho26 hg26 hat26 hlt26
                  have f26 : Fr (fun k => Value.ownBlock (vb) = some k) w25 w26 := (Fr.refl _ _).grown hg26 (fun q hq => .inl hq)
                  have ST26 := Lib.hid (ST25.out.grow f26 (fun k hk => (IB25.out.lt k hk).1))
                  have OA26 := Lib.hid (own_grown OA25.out hg26 (own_sep OA25.out IB25.out (by decide)))
                  have OB26 := Lib.hid (own_grown OB25.out hg26 (own_sep OB25.out IB25.out (by decide)))
                  have IA26 := Lib.hid (own_grown IA25.out hg26 (own_sep IA25.out IB25.out (by decide)))
                  have IB26 := Lib.hid (show w26.ownsRow (W.heap.size + 5) 126 2 (.slice (some ⟨g26, 0, none⟩) (di.length + 1) c26) (di ++ [(⟨ks, e.ver⟩ : MId)]).length ((di ++ [(⟨ks, e.ver⟩ : MId)]).flatMap MId.cells) by simpa using ho26)
                  clear ho26 hg26 hat26 f26
                  go_wp2_with fail
                  refine ⟨⟨⟨_, ST26.out⟩, rfl⟩, ?_⟩
                  repeat (refine wpV_q (by simp only [List.getElem?_toArray, List.getElem?_cons_succ, List.getElem?_cons_zero] <;> rfl) (by rfl) (by rfl) ?_; go_big_quiet_step (exact rfl); refine wpQuiet_nil ?_)
                  refine wpV_done ?_
                  refine tailT_open (fun w' => ∃ z : WC (fun _ => True), w' = z.val) ⟨⟨_, trivial⟩, rfl⟩ ?_
                  repeat (refine wpT_q (by simp only [List.getElem?_toArray, List.getElem?_cons_succ, List.getElem?_cons_zero] <;> rfl) (by rfl) (by rfl) ?_; go_big_quiet_step (exact rfl); refine wpQuiet_nil ?_)
                  refine wpT_e (by simp only [List.getElem?_toArray, List.getElem?_cons_succ, List.getElem?_cons_zero] <;> rfl) (by rfl) ?_
                  have y := ST26.out.cellA 5 _ rfl
                  have z := ST26.out.zA 5
                  go_wp2_with fail
                  generalize hw27 : World.setCell w26 ⟨W.heap.size + 3, 5, none⟩ (.slice (some ⟨g25, 0, none⟩) (di.length + 1) c25) = w27
                  have f27 : Fr (fun k => k = W.heap.size + 3) w26 w27 := by rw [← hw27]; exact set_fr _ _ _ _
                  have ST27 := Lib.hid (ST26.out.setA 5 (.slice (some ⟨g25, 0, none⟩) (di.length + 1) c25))
                  rw [hw27] at ST27
                  simp only [List.setIfInBounds_toArray, List.set_cons_zero, List.set_cons_succ] at ST27
                  have OA27 := Lib.hid (own_low OA26.out f27 (by omega))
                  have OB27 := Lib.hid (own_low OB26.out f27 (by omega))
                  have IA27 := Lib.hid (own_low IA26.out f27 (by omega))
                  have IB27 := Lib.hid (own_low IB26.out f27 (by omega))
                  clear hw27 f27 y z
                  refine ⟨⟨⟨_, trivial⟩, rfl⟩, ?_⟩
                  repeat (refine wpT_q (by simp only [List.getElem?_toArray, List.getElem?_cons_succ, List.getElem?_cons_zero] <;> rfl) (by rfl) (by rfl) ?_; go_big_quiet_step (exact rfl); refine wpQuiet_nil ?_)
                  refine wpT_e (by simp only [List.getElem?_toArray, List.getElem?_cons_succ, List.getElem?_cons_zero] <;> rfl) (by rfl) ?_
                  have y := ST27.out.cellB 5 _ rfl
                  have z := ST27.out.zB 5
                  go_wp2_with fail
                  generalize hw28 : World.setCell w27 ⟨W.heap.size + 4, 5, none⟩ (.slice (some ⟨g26, 0, none⟩) (di.length + 1) c26) = w28
                  have f28 : Fr (fun k => k = W.heap.size + 4) w27 w28 := by rw [← hw28]; exact set_fr _ _ _ _
                  have ST28 := Lib.hid (ST27.out.setB 5 (.slice (some ⟨g26, 0, none⟩) (di.length + 1) c26))
                  rw [hw28] at ST28
                  simp only [List.setIfInBounds_toArray, List.set_cons_zero, List.set_cons_succ] at ST28
                  have OA28 := Lib.hid (own_low OA27.out f28 (by omega))
                  have OB28 := Lib.hid (own_low OB27.out f28 (by omega))
                  have IA28 := Lib.hid (own_low IA27.out f28 (by omega))
                  have IB28 := Lib.hid (own_low IB27.out f28 (by omega))
                  clear hw28 f28 y z
                  refine ⟨⟨⟨_, trivial⟩, rfl⟩, ?_⟩
                  refine wpT_nil ?_
                  go_wp2_with fail
                  go_roundw
                  case rel => exact ⟨di ++ [(⟨ks, e.ver⟩ : MId)], _, _, by rw [List.length_append, List.length_singleton]; go_num, by rw [List.length_append, List.length_singleton]; omega, Lib.hid (by have := HS.out; rwa [HKS.out] at this), ST28.out, OA28.out, OB28.out, IA28.out, IB28.out⟩
                  case measure => simp [intOf]; omega
              · skip
                go_wp2_with fail
                generalize hw29 : World.alloc wd (.cells #[.string ks, .int .u64 e.ver] 126) = w29
                have f29 : Gr wd w29 := by rw [← hw29]; exact (Fr.refl _ _).alloc _
                have N29 := Lib.hid (show News w29 wd.heap.size [.string ks, .int .u64 e.ver] by rw [← hw29]; exact news_cells _ #[.string ks, .int .u64 e.ver] _)
                have ST29 := Lib.hid (STd.out.gr f29)
                have OA29 := Lib.hid (own_fr OAd.out f29 (fun _ _ h => h))
                have NBOA29 := Lib.hid (own_not OAd.out)
                have OB29 := Lib.hid (own_fr OBd.out f29 (fun _ _ h => h))
                have NBOB29 := Lib.hid (own_not OBd.out)
                have IA29 := Lib.hid (own_fr IAd.out f29 (fun _ _ h => h))
                have NBIA29 := Lib.hid (own_not IAd.out)
                have IB29 := Lib.hid (own_fr IBd.out f29 (fun _ _ h => h))
                have NBIB29 := Lib.hid (own_not IBd.out)
                clear hw29 f29
                refine ⟨⟨⟨_, ST29.out⟩, rfl⟩, ?_⟩
                refine wpV_e (by simp only [List.getElem?_toArray, List.getElem?_cons_succ, List.getElem?_cons_zero] <;> rfl) (by rfl) ?_
                go_wp2_with fail
                generalize hw30 : World.alloc w29 (.cells #[.string ks, .int .u64 e.ver] 121) = w30
                have f30 : Gr w29 w30 := by rw [← hw30]; exact (Fr.refl _ _).alloc _
                have N30 := Lib.hid (show News w30 w29.heap.size [.string ks, .int .u64 e.ver] by rw [← hw30]; exact news_cells _ #[.string ks, .int .u64 e.ver] _)
                have ST30 := Lib.hid (ST29.out.gr f30)
                have OA30 := Lib.hid (own_fr OA29.out f30 (fun _ _ h => h))
                have NBOA30 := Lib.hid (own_not OA29.out)
                have OB30 := Lib.hid (own_fr OB29.out f30 (fun _ _ h => h))
                have NBOB30 := Lib.hid (own_not OB29.out)
                have IA30 := Lib.hid (own_fr IA29.out f30 (fun _ _ h => h))
                have NBIA30 := Lib.hid (own_not IA29.out)
                have IB30 := Lib.hid (own_fr IB29.out f30 (fun _ _ h => h))
                have NBIB30 := Lib.hid (own_not IB29.out)
                have NIB30 := Lib.hid (News.keep N29.out f30 (by intro h; exact h))
                clear hw30 f30
                refine ⟨⟨⟨_, ST30.out⟩, rfl⟩, ?_⟩
                refine wpV_e (by simp only [List.getElem?_toArray, List.getElem?_cons_succ, List.getElem?_cons_zero] <;> rfl) (by rfl) ?_
                go_wp2_with (at_builtin; refine wpList_append_lies _ rfl _ _ 27 rfl (W.heap.size + 5) 121 i2 (.agg #[.string ⟨#[]⟩, .int .u64 0]) 2 24 Try.underlying27 hj1 hj2 hj3 hj4 rfl (by decide) _ _ _ rfl IA30.out ⟨w29.heap.size, 0, none⟩ 1 1 [.string ks, .int .u64 e.ver] rfl rfl N30.out (by intro u hu; simp at hu; (first | (rcases hu with rfl | rfl | rfl | rfl | rfl | rfl) | (rcases hu with rfl | rfl) | (subst hu)) <;> rfl) (by decide) (by unfold maxLen; omega) (by omega) (by have := ST30.out.sz; omega) _ rfl ?_)
                intro g31 c31 w31 ho31 hg31 hat31 hlt31
                have f31 : Fr (fun k => Value.ownBlock (va) = some k) w30 w31 := (Fr.refl _ _).grown hg31 (fun q hq => .inl hq)
                have ST31 := Lib.hid (ST30.out.grow f31 (fun k hk => (IA30.out.lt k hk).1))
                have OA31 := Lib.hid (own_grown OA30.out hg31 (own_sep OA30.out IA30.out (by decide)))
                have OB31 := Lib.hid (own_grown OB30.out hg31 (own_sep OB30.out IA30.out (by decide)))
                have IB31 := Lib.hid (own_grown IB30.out hg31 (own_sep IB30.out IA30.out (by decide)))
                have NIB31 := Lib.hid (News.keep NIB30.out f31 (by intro hq; exact NBIA29.out _ hq rfl))
                have IA31 := Lib.hid (show w31.ownsRow (W.heap.size + 5) 121 2 (.slice (some ⟨g31, 0, none⟩) (di.length + 1) c31) (di ++ [(⟨ks, e.ver⟩ : MId)]).length ((di ++ [(⟨ks, e.ver⟩ : MId)]).flatMap MId.cells) by simpa using ho31)
                clear ho31 hg31 hat31 f31
                go_wp2_with fail
                refine ⟨⟨⟨_, ST31.out⟩, rfl⟩, ?_⟩
                refine wpV_e (by simp only [List.getElem?_toArray, List.getElem?_cons_succ, List.getElem?_cons_zero] <;> rfl) (by rfl) ?_
                go_wp2_with (at_builtin; refine wpList_append_lies _ rfl _ _ 31 rfl (W.heap.size + 5) 126 i4 (.agg #[.string ⟨#[]⟩, .int .u64 0]) 2 24 Try.underlying31 hm1 hm2 hm3 hm4 rfl (by decide) _ _ _ rfl IB31.out ⟨wd.heap.size, 0, none⟩ 1 1 [.string ks, .int .u64 e.ver] rfl rfl NIB31.out (by intro u hu; simp at hu; (first | (rcases hu with rfl | rfl | rfl | rfl | rfl | rfl) | (rcases hu with rfl | rfl) | (subst hu)) <;> rfl) (by decide) (by unfold maxLen; omega) (by omega) (by have := ST31.out.sz; omega) _ rfl ?_)
                intro g32 c32 w32 ho32 hg32 hat32 hlt32
                have f32 : Fr (fun k => Value.ownBlock (vb) = some k) w31 w32 := (Fr.refl _ _).grown hg32 (fun q hq => .inl hq)
                have ST32 := Lib.hid (ST31.out.grow f32 (fun k hk => (IB31.out.lt k hk).1))
                have OA32 := Lib.hid (own_grown OA31.out hg32 (own_sep OA31.out IB31.out (by decide)))
                have OB32 := Lib.hid (own_grown OB31.out hg32 (own_sep OB31.out IB31.out (by decide)))
                have IA32 := Lib.hid (own_grown IA31.out hg32 (own_sep IA31.out IB31.out (by decide)))
                have IB32 := Lib.hid (show w32.ownsRow (W.heap.size + 5) 126 2 (.slice (some ⟨g32, 0, none⟩) (di.length + 1) c32) (di ++ [(⟨ks, e.ver⟩ : MId)]).length ((di ++ [(⟨ks, e.ver⟩ : MId)]).flatMap MId.cells) by simpa using ho32)
                clear ho32 hg32 hat32 f32
                go_wp2_with fail
                refine ⟨⟨⟨_, ST32.out⟩, rfl⟩, ?_⟩
                repeat (refine wpV_q (by simp only [List.getElem?_toArray, List.getElem?_cons_succ, List.getElem?_cons_zero] <;> rfl) (by rfl) (by rfl) ?_; go_big_quiet_step (exact rfl); refine wpQuiet_nil ?_)
                refine wpV_done ?_
                refine tailT_open (fun w' => ∃ z : WC (fun _ => True), w' = z.val) ⟨⟨_, trivial⟩, rfl⟩ ?_
                repeat (refine wpT_q (by simp only [List.getElem?_toArray, List.getElem?_cons_succ, List.getElem?_cons_zero] <;> rfl) (by rfl) (by rfl) ?_; go_big_quiet_step (exact rfl); refine wpQuiet_nil ?_)
                refine wpT_e (by simp only [List.getElem?_toArray, List.getElem?_cons_succ, List.getElem?_cons_zero] <;> rfl) (by rfl) ?_
                have y := ST32.out.cellA 5 _ rfl
                have z := ST32.out.zA 5
                go_wp2_with fail
                generalize hw33 : World.setCell w32 ⟨W.heap.size + 3, 5, none⟩ (.slice (some ⟨g31, 0, none⟩) (di.length + 1) c31) = w33
                have f33 : Fr (fun k => k = W.heap.size + 3) w32 w33 := by rw [← hw33]; exact set_fr _ _ _ _
                have ST33 := Lib.hid (ST32.out.setA 5 (.slice (some ⟨g31, 0, none⟩) (di.length + 1) c31))
                rw [hw33] at ST33
                simp only [List.setIfInBounds_toArray, List.set_cons_zero, List.set_cons_succ] at ST33
                have OA33 := Lib.hid (own_low OA32.out f33 (by omega))
                have OB33 := Lib.hid (own_low OB32.out f33 (by omega))
                have IA33 := Lib.hid (own_low IA32.out f33 (by omega))
                have IB33 := Lib.hid (own_low IB32.out f33 (by omega))
                clear hw33 f33 y z
                refine ⟨⟨⟨_, trivial⟩, rfl⟩, ?_⟩
                repeat (refine wpT_q (by simp only [List.getElem?_toArray, List.getElem?_cons_succ, List.getElem?_cons_zero] <;> rfl) (by rfl) (by rfl) ?_; go_big_quiet_step (exact rfl); refine wpQuiet_nil ?_)
                refine wpT_e (by simp only [List.getElem?_toArray, List.getElem?_cons_succ, List.getElem?_cons_zero] <;> rfl) (by rfl) ?_
                have y := ST33.out.cellB 5 _ rfl
                have z := ST33.out.zB 5
                go_wp2_with fail
                generalize hw34 : World.setCell w33 ⟨W.heap.size + 4, 5, none⟩ (.slice (some ⟨g32, 0, none⟩) (di.length + 1) c32) = w34
                have f34 : Fr (fun k => k = W.heap.size + 4) w33 w34 := by rw [← hw34]; exact set_fr _ _ _ _
                have ST34 := Lib.hid (ST33.out.setB 5 (.slice (some ⟨g32, 0, none⟩) (di.length + 1) c32))
                rw [hw34] at ST34
                simp only [List.setIfInBounds_toArray, List.set_cons_zero, List.set_cons_succ] at ST34
                have OA34 := Lib.hid (own_low OA33.out f34 (by omega))
                have OB34 := Lib.hid (own_low OB33.out f34 (by omega))
                have IA34 := Lib.hid (own_low IA33.out f34 (by omega))
                have IB34 := Lib.hid (own_low IB33.out f34 (by omega))
                clear hw34 f34 y z
                refine ⟨⟨⟨_, trivial⟩, rfl⟩, ?_⟩
                refine wpT_nil ?_
                go_wp2_with fail
                go_roundw
                case rel => exact ⟨di ++ [(⟨ks, e.ver⟩ : MId)], _, _, by rw [List.length_append, List.length_singleton]; go_num, by rw [List.length_append, List.length_singleton]; omega, Lib.hid (by have := HS.out; rwa [HKS.out] at this), ST34.out, OA34.out, OB34.out, IA34.out, IB34.out⟩
                case measure => simp [intOf]; omega
            · rw [decide_eq_false hlt]
              have HDI : Hid (di = (x.ids.take 70).map LId) := Lib.hid (done_map LId HD.out HN2.out hk hlt)
              obtain ⟨ia, ja, rfl, -, -, -⟩ := SlA.of_own IA.out
              obtain ⟨ib, jb, rfl, -, -, -⟩ := SlA.of_own IB.out
              go_wp2_with fail
              clear hlt hk HD y4
              go_loopw [9] (fun iv wr => ∃ (dr : List MRec) (va vb : Value), iv = .int .i64 dr.length ∧ dr.length ≤ n3 ∧ Hid (dr = (x.recs.take dr.length).map LRec) ∧ BothSt W x xp #[.int .i64 x.kind, .int .i64 x.node, .int .i64 x.walk, .bool x.high, .slice aa da.length ca, .slice ia di.length ja, va] #[.int .i64 x.kind, .int .i64 x.node, .int .i64 x.walk, .bool x.high, .slice ab da.length cb, .slice ib di.length jb, vb] wr ∧ wr.ownsRow (W.heap.size + 5) 3 1 (.slice aa da.length ca) da.length (da.flatMap MInt.cells) ∧ wr.ownsRow (W.heap.size + 5) 3 1 (.slice ab da.length cb) da.length (da.flatMap MInt.cells) ∧ wr.ownsRow (W.heap.size + 5) 121 2 (.slice ia di.length ja) di.length (di.flatMap MId.cells) ∧ wr.ownsRow (W.heap.size + 5) 126 2 (.slice ib di.length jb) di.length (di.flatMap MId.cells) ∧ wr.ownsRow (W.heap.size + 5) 123 6 va dr.length (dr.flatMap MRec.cells) ∧ wr.ownsRow (W.heap.size + 5) 127 6 vb dr.length (dr.flatMap MRec.cells)) (fun iv _ => n3 - (intOf iv).toNat)
              case atStart => exact ⟨[], _, _, rfl, Nat.zero_le _, Lib.hid rfl, ST.out, OA.out, OB.out, IA.out, IB.out, World.ownsRow_nil _ _ _ _, World.ownsRow_nil _ _ _ _⟩
              case round =>
                clear ST OA OB IA IB
                obtain ⟨dr, va, vb, rfl, hk, HD, hst, hoa, hob, hia, hib, hra, hrb⟩ := hrel
                have ST := Lib.hid hst
                have OA := Lib.hid hoa
                have OB := Lib.hid hob
                have IA := Lib.hid hia
                have IB := Lib.hid hib
                have RA := Lib.hid hra
                have RB := Lib.hid hrb
                clear hst hoa hob hia hib hra hrb
                have y4 := ST.out.bx 6 _ rfl
                by_cases hlt : dr.length < n3
                · refine both_round3 HN3 HX HOK hlt HD ST OA OB IA IB RA RB ?_
                  intro e va' vb' w' v10 v112 v113 v114 v115 v116 v117 v118 v119 v120 v121 v122 v123 v124 v125 v126 v127 v128 v129 v130 v131 v132 v133 v134 v135 v136 v137 v138 v139 v140 v141 v142 v143 v144 v145 v146 v147 v148 v149 v150 v151 v152 v153 v154 v155 v156 v157 v158 v159 v160 v161 v162 v163 v164 v165 v166 v167 v168 HD' ST' OA' OB' IA' IB' RA' RB'
                  go_roundw
                  case rel => exact ⟨dr ++ [e], va', vb', by rw [List.length_append, List.length_singleton]; go_num, by rw [List.length_append, List.length_singleton]; omega, HD', ST', OA', OB', IA', IB', RA', RB'⟩
                  case measure => simp [intOf]; omega
                go_upto_region 13 with fail
                go_cut [120] from 112 to 120 (fun c wx => c = .bool false ∧ wr = wx)
                case first =>
                  by_cases h1 : (dr.length : Int) < (x.recs.length : Int)
                  · by_cases h2 : (dr.length : Int) < 20
                    · exfalso; have := HN3.out; omega
                    · go_wp2_with fail
                      go_meet
                      exact ⟨rfl, rfl⟩
                  · go_wp2_with fail
                    go_meet
                    exact ⟨rfl, rfl⟩
                case rest =>
                  obtain ⟨rfl, rfl⟩ := hcut
                  have HDR : Hid (dr = (x.recs.take 20).map LRec) := Lib.hid (done_map LRec HD.out HN3.out hk hlt)
                  obtain ⟨ra, ka, rfl, -, -, -⟩ := SlA.of_own RA.out
                  obtain ⟨rb, kb, rfl, -, -, -⟩ := SlA.of_own RB.out
                  clear hlt hk HD y4
                  have HM : x.msg = ⟨x.kind, x.node, x.walk, x.high, da, di, dr⟩ := by unfold LMsg.msg; rw [← HDA.out, ← HDI.out, ← HDR.out]
                  have HM := Lib.hid HM
                  go_wp2_with fail
                  clear hi1 hi2 hi3 hi4 hj1 hj2 hj3 hj4 hm1 hm2 hm3 hm4 hl1 hl2 hl3 hl4 hn1 hn2 hn3 hn4 hc1 hc2 hc3 hd1 hd2 hd3 q1 q2 q3 r1 r2 r3
                  have yA0 : wr.cell? ⟨W.heap.size + 3, 0, none⟩ = some (.int .i64 x.kind) := ST.out.cellA 0 _ rfl
                  have yA1 : wr.cell? ⟨W.heap.size + 3, 1, none⟩ = some (.int .i64 x.node) := ST.out.cellA 1 _ rfl
                  have yA2 : wr.cell? ⟨W.heap.size + 3, 2, none⟩ = some (.int .i64 x.walk) := ST.out.cellA 2 _ rfl
                  have yA3 : wr.cell? ⟨W.heap.size + 3, 3, none⟩ = some (.bool x.high) := ST.out.cellA 3 _ rfl
                  have yA4 : wr.cell? ⟨W.heap.size + 3, 4, none⟩ = some (.slice aa da.length ca) := ST.out.cellA 4 _ rfl
                  have yA5 : wr.cell? ⟨W.heap.size + 3, 5, none⟩ = some (.slice ia di.length ja) := ST.out.cellA 5 _ rfl
                  have yA6 : wr.cell? ⟨W.heap.size + 3, 6, none⟩ = some (.slice ra dr.length ka) := ST.out.cellA 6 _ rfl
                  have yB0 : wr.cell? ⟨W.heap.size + 4, 0, none⟩ = some (.int .i64 x.kind) := ST.out.cellB 0 _ rfl
                  have yB1 : wr.cell? ⟨W.heap.size + 4, 1, none⟩ = some (.int .i64 x.node) := ST.out.cellB 1 _ rfl
                  have yB2 : wr.cell? ⟨W.heap.size + 4, 2, none⟩ = some (.int .i64 x.walk) := ST.out.cellB 2 _ rfl
                  have yB3 : wr.cell? ⟨W.heap.size + 4, 3, none⟩ = some (.bool x.high) := ST.out.cellB 3 _ rfl
                  have yB4 : wr.cell? ⟨W.heap.size + 4, 4, none⟩ = some (.slice ab da.length cb) := ST.out.cellB 4 _ rfl
                  have yB5 : wr.cell? ⟨W.heap.size + 4, 5, none⟩ = some (.slice ib di.length jb) := ST.out.cellB 5 _ rfl
                  have yB6 : wr.cell? ⟨W.heap.size + 4, 6, none⟩ = some (.slice rb dr.length kb) := ST.out.cellB 6 _ rfl
                  have z1_0 : wr.frozen? ⟨W.heap.size + 1, 0, none⟩ = false := Lib.frozen_of_heap ST.out.za 0
                  have c1_0 : wr.cell? ⟨W.heap.size + 1, 0, none⟩ = some (.int .i64 0) := by rw [Lib.cell_of_heap ST.out.za]; rfl
                  have z1_1 : wr.frozen? ⟨W.heap.size + 1, 1, none⟩ = false := Lib.frozen_of_heap ST.out.za 1
                  have c1_1 : wr.cell? ⟨W.heap.size + 1, 1, none⟩ = some (.int .i64 0) := by rw [Lib.cell_of_heap ST.out.za]; rfl
                  have z1_2 : wr.frozen? ⟨W.heap.size + 1, 2, none⟩ = false := Lib.frozen_of_heap ST.out.za 2
                  have c1_2 : wr.cell? ⟨W.heap.size + 1, 2, none⟩ = some (.int .i64 0) := by rw [Lib.cell_of_heap ST.out.za]; rfl
                  have z1_3 : wr.frozen? ⟨W.heap.size + 1, 3, none⟩ = false := Lib.frozen_of_heap ST.out.za 3
                  have c1_3 : wr.cell? ⟨W.heap.size + 1, 3, none⟩ = some (.bool false) := by rw [Lib.cell_of_heap ST.out.za]; rfl
                  have z1_4 : wr.frozen? ⟨W.heap.size + 1, 4, none⟩ = false := Lib.frozen_of_heap ST.out.za 4
                  have c1_4 : wr.cell? ⟨W.heap.size + 1, 4, none⟩ = some (.slice none 0 0) := by rw [Lib.cell_of_heap ST.out.za]; rfl
                  have z1_5 : wr.frozen? ⟨W.heap.size + 1, 5, none⟩ = false := Lib.frozen_of_heap ST.out.za 5
                  have c1_5 : wr.cell? ⟨W.heap.size + 1, 5, none⟩ = some (.slice none 0 0) := by rw [Lib.cell_of_heap ST.out.za]; rfl
                  have z1_6 : wr.frozen? ⟨W.heap.size + 1, 6, none⟩ = false := Lib.frozen_of_heap ST.out.za 6
                  have c1_6 : wr.cell? ⟨W.heap.size + 1, 6, none⟩ = some (.slice none 0 0) := by rw [Lib.cell_of_heap ST.out.za]; rfl
                  have z2_0 : wr.frozen? ⟨W.heap.size + 2, 0, none⟩ = false := Lib.frozen_of_heap ST.out.zb 0
                  have c2_0 : wr.cell? ⟨W.heap.size + 2, 0, none⟩ = some (.int .i64 0) := by rw [Lib.cell_of_heap ST.out.zb]; rfl
                  have z2_1 : wr.frozen? ⟨W.heap.size + 2, 1, none⟩ = false := Lib.frozen_of_heap ST.out.zb 1
                  have c2_1 : wr.cell? ⟨W.heap.size + 2, 1, none⟩ = some (.int .i64 0) := by rw [Lib.cell_of_heap ST.out.zb]; rfl
                  have z2_2 : wr.frozen? ⟨W.heap.size + 2, 2, none⟩ = false := Lib.frozen_of_heap ST.out.zb 2
                  have c2_2 : wr.cell? ⟨W.heap.size + 2, 2, none⟩ = some (.int .i64 0) := by rw [Lib.cell_of_heap ST.out.zb]; rfl
                  have z2_3 : wr.frozen? ⟨W.heap.size + 2, 3, none⟩ = false := Lib.frozen_of_heap ST.out.zb 3
                  have c2_3 : wr.cell? ⟨W.heap.size + 2, 3, none⟩ = some (.bool false) := by rw [Lib.cell_of_heap ST.out.zb]; rfl
                  have z2_4 : wr.frozen? ⟨W.heap.size + 2, 4, none⟩ = false := Lib.frozen_of_heap ST.out.zb 4
                  have c2_4 : wr.cell? ⟨W.heap.size + 2, 4, none⟩ = some (.slice none 0 0) := by rw [Lib.cell_of_heap ST.out.zb]; rfl
                  have z2_5 : wr.frozen? ⟨W.heap.size + 2, 5, none⟩ = false := Lib.frozen_of_heap ST.out.zb 5
                  have c2_5 : wr.cell? ⟨W.heap.size + 2, 5, none⟩ = some (.slice none 0 0) := by rw [Lib.cell_of_heap ST.out.zb]; rfl
                  have z2_6 : wr.frozen? ⟨W.heap.size + 2, 6, none⟩ = false := Lib.frozen_of_heap ST.out.zb 6
                  have c2_6 : wr.cell? ⟨W.heap.size + 2, 6, none⟩ = some (.slice none 0 0) := by rw [Lib.cell_of_heap ST.out.zb]; rfl
                  go_region
                  go_wp2_with fail
                  refine bodyPost_ret (v := .tuple #[.agg #[.int .i64 x.kind, .int .i64 x.node, .int .i64 x.walk, .bool x.high, .slice aa da.length ca, .slice ia di.length ja, .slice ra dr.length ka], .agg #[.int .i64 x.kind, .int .i64 x.node, .int .i64 x.walk, .bool x.high, .slice ab da.length cb, .slice ib di.length jb, .slice rb dr.length kb]]) (by simp [results, Try.results16, go_sem, c1_0, c1_1, c1_2, c1_3, c1_4, c1_5, c1_6, c2_0, c2_1, c2_2, c2_3, c2_4, c2_5, c2_6]) rfl ?_
                  rw [HM.out]
                  exact both_fin (p := ⟨aa, ca, ia, ja, ra, ka⟩) (q := ⟨ab, cb, ib, jb, rb, kb⟩) (set7_fr (set7_fr ST.out.fr (.inr (by omega)) _ _ _ _ _ _ _) (.inr (by omega)) _ _ _ _ _ _ _).drew (set7_fr (set7_fr (Fr.refl _ _) (.inl (.inl rfl)) _ _ _ _ _ _ _) (.inl (.inr rfl)) _ _ _ _ _ _ _).drew rfl OA.out IA.out RA.out OB.out IB.out RB.out

end Go.Proofs.Ytkclgemkeifbaaa
