/-
  Package peers: All, Match (printed by gen_peersb.py).
-/
import Derived.Test.YtelepohdfcjnfaaZPeers
import Derived.Test.YtelepohdfcjnfaaZSorted
import Derived.Test.YtelepohdfcjnfaaZStaB
import Derived.Test.YtelepohdfcjnfaaZSetDelB
namespace Go.Proofs.Ytelepohdfcjnfaa
open Go.RowKit Go.Proofs

theorem intsV_own {w : World} {base : Nat} {v : Value} {l : List Int} (h : w.ownsRow base 3 1 v l.length (ints l)) : IntsV w.heap.size w v l := by
  have hs := SlA.of_own h
  rcases h.2 with ⟨rfl, hz⟩ | ⟨g, cap, cur, rfl, _, hg, _⟩
  · exact .inl ⟨rfl, List.eq_nil_of_length_eq_zero hz⟩
  · refine .inr ⟨g, 0, cap, rfl, (Array.getElem?_eq_some_iff.1 hg).1, fun j hj => ?_⟩
    obtain ⟨a, c, he, hsl, -, -⟩ := hs
    obtain ⟨b, o, hb, hc⟩ := hsl.cell j (.int .i64 l[j]) (by simp [hj])
    injection he with e1 e2 e3
    rw [← e1] at hb
    injection hb with hb
    injection hb with hb1 hb2
    rw [hb1, hb2, hc, List.getElem?_eq_getElem hj]
    rfl
theorem Sta.grow_own {W : World} {O : Nat → Prop} {B : List Blk} {L : List Ow} {R : List Rw} {w w' : World} {l : List Int} {v : Value} (h : Sta W O (.pointer none) [] B L R w) (ho : w'.ownsRow w.heap.size 3 1 v l.length (ints l)) (hb : Below w.heap.size w w') : OwnOut l W (.returned v) w' :=
  ⟨v, rfl, own_base ho h.size, Fr.below (Below.refl _ _) (h.gr (Gr.of_below hb)).fr (Nat.le_refl _) (fun k e => absurd e (pn_no k))⟩

set_option maxHeartbeats 4000000 in
set_option maxRecDepth 100000 in
theorem peersAll_any (u : Pe) (x : PeP) (O : Nat → Prop) (W : World) (hs : Sta W O (.pointer none) [] [] [] (prows u x []) W) (hg : u.Good) :
    Calls Try.prog 36 #[.agg (u.arr x)] W (OwnOut (peAll u) W) := by
  obtain ⟨l, hl⟩ : ∃ l, l = u.e ++ u.z := ⟨_, rfl⟩
  have HL := Lib.hid hl
  clear hl
  have HG := Lib.hid hg
  have CE := Lib.hid (fun w (h1 : SlA w x.ea u.e.length x.ec (ints u.e)) => setAll_any x.ea x.ec u.e 64 w h1 HG.out.e)
  have CZ := Lib.hid (fun w (h1 : SlA w x.za u.z.length x.zc (ints u.z)) => setAll_any x.za x.zc u.z 64 w h1 HG.out.z)
  obtain ⟨w1, hw1⟩ : ∃ w1, w1 = W.alloc (.cells (u.arr x) 74) := ⟨_, rfl⟩
  obtain ⟨b0, hb0⟩ : ∃ b, b = W.heap.size := ⟨_, rfl⟩
  have ST1 := Lib.hid (show Sta W O (.pointer none) [] [⟨b0, u.arr x, 74⟩] [] (prows u x []) w1 by rw [hw1]; exact hs.box _ _ hb0)
  have HW1 := Lib.hid hw1
  have HB0 := Lib.hid hb0
  clear hw1 hb0 hs hg
  go_enter Try.func36, Try.ntmps36
  go_upto_region 1 with fail
  rw [← HW1.out, ← HB0.out]
  clear HW1 HB0
  obtain ⟨wd, hwd⟩ : ∃ x, x = w1.drew := ⟨_, rfl⟩
  have HWD := Lib.hid hwd
  have ST2 := Lib.hid (show Sta W O (.pointer none) [] [⟨b0, u.arr x, 74⟩] [] (prows u x []) wd from hwd ▸ ST1.out.gr ((Fr.refl _ _).drew))
  clear ST1 hwd
  haveI : Nonempty (WC (fun w => w.heap[b0]? = some (.cells (u.arr x) 74 (0, 0)))) := ⟨⟨wd, ST2.out.blkAt 0 rfl⟩⟩
  have q0 : ∀ z : WC (fun w => w.heap[b0]? = some (.cells (u.arr x) 74 (0, 0))), z.val.cell? ⟨b0, 0, none⟩ = some (.slice x.ea u.e.length x.ec) := fun z => by rw [Lib.cell_of_heap z.ok]; rfl
  have q1 : ∀ z : WC (fun w => w.heap[b0]? = some (.cells (u.arr x) 74 (0, 0))), z.val.cell? ⟨b0, 1, none⟩ = some (.int .i64 64) := fun z => by rw [Lib.cell_of_heap z.ok]; rfl
  have q2 : ∀ z : WC (fun w => w.heap[b0]? = some (.cells (u.arr x) 74 (0, 0))), z.val.cell? ⟨b0, 2, none⟩ = some (.slice x.za u.z.length x.zc) := fun z => by rw [Lib.cell_of_heap z.ok]; rfl
  have q3 : ∀ z : WC (fun w => w.heap[b0]? = some (.cells (u.arr x) 74 (0, 0))), z.val.cell? ⟨b0, 3, none⟩ = some (.int .i64 64) := fun z => by rw [Lib.cell_of_heap z.ok]; rfl
  refine wp_region_plan [2, 5, 6, 7, 8, 9] (Plan.seq [0, 1, 2, 3, 4, 5, 6, 7, 8, 9] .done) (fun w' => ∃ z : WC (fun w => w.heap[b0]? = some (.cells (u.arr x) 74 (0, 0))), w' = z.val) (by kernel_rfl) (by kernel_rfl) (fun c a w d v h => by cases d <;> exact h) (fun c a w d v h => by cases d <;> exact h) (by rw [← HWD.out]; exact ⟨⟨wd, ST2.out.blkAt 0 rfl⟩, rfl⟩) ?_
  rw [← HWD.out]
  clear HWD
  refine wpV_q (by simp only [List.getElem?_toArray, List.getElem?_cons_zero] <;> rfl) (by rfl) (by rfl) ?_
  go_big_quiet_step (fail)
  refine wpQuiet_nil ?_
  refine wpV_q (by simp only [List.getElem?_toArray, List.getElem?_cons_succ, List.getElem?_cons_zero] <;> rfl) (by rfl) (by rfl) ?_
  go_big_quiet_step (fail)
  refine wpQuiet_nil ?_
  refine wpV_e (by simp only [List.getElem?_toArray, List.getElem?_cons_succ, List.getElem?_cons_zero] <;> rfl) (by rfl) ?_
  go_wp2_with fail
  refine (CE.out _ (ST2.out.rowAt 0 rfl)).mono ?_
  rintro e w2 ⟨v1, rfl, ho_, hb_⟩
  have ST3 := Lib.hid (show Sta W O (.pointer none) [] [⟨b0, u.arr x, 74⟩] [⟨3, 1, v1, u.e.length, ints u.e⟩] (prows u x []) w2 from ST2.out.ownIn (Gr.of_below hb_) ho_)
  clear ho_ hb_ ST2
  go_wp2_with fail
  refine ⟨⟨⟨w2, ST3.out.blkAt 0 rfl⟩, rfl⟩, ?_⟩
  refine wpV_q (by simp only [List.getElem?_toArray, List.getElem?_cons_succ, List.getElem?_cons_zero] <;> rfl) (by rfl) (by rfl) ?_
  go_big_quiet_step (fail)
  refine wpQuiet_nil ?_
  refine wpV_q (by simp only [List.getElem?_toArray, List.getElem?_cons_succ, List.getElem?_cons_zero] <;> rfl) (by rfl) (by rfl) ?_
  go_big_quiet_step (fail)
  refine wpQuiet_nil ?_
  refine wpV_e (by simp only [List.getElem?_toArray, List.getElem?_cons_succ, List.getElem?_cons_zero] <;> rfl) (by rfl) ?_
  go_wp2_with fail
  refine (CZ.out _ (ST3.out.rowAt 1 rfl)).mono ?_
  rintro e w3 ⟨v2, rfl, ho_, hb_⟩
  have ST4 := Lib.hid (show Sta W O (.pointer none) [] [⟨b0, u.arr x, 74⟩] [⟨3, 1, v2, u.z.length, ints u.z⟩, ⟨3, 1, v1, u.e.length, ints u.e⟩] (prows u x []) w3 from ST3.out.ownIn (Gr.of_below hb_) ho_)
  clear ho_ hb_ ST3
  obtain ⟨a2, c2, rfl, hst⟩ := ST4.out.asRow 0 rfl
  have ST5 := Lib.hid (show Sta W O (.pointer none) [] [⟨b0, u.arr x, 74⟩] [⟨3, 1, v1, u.e.length, ints u.e⟩] (⟨a2, u.z.length, c2, ints u.z⟩ :: prows u x []) w3 from hst)
  clear hst ST4
  go_wp2_with fail
  refine ⟨⟨⟨w3, ST5.out.blkAt 0 rfl⟩, rfl⟩, ?_⟩
  refine wpV_e (by simp only [List.getElem?_toArray, List.getElem?_cons_succ, List.getElem?_cons_zero] <;> rfl) (by rfl) ?_
  refine wpList_growI (by rfl) _ _ (by rfl) ST5.out 0 rfl (ST5.out.rowAt 0 rfl) (by rfl) (by rfl) (by have := HG.out.e.len; have := HG.out.z.len; omega) ?_
  intro v3 w4 hst
  refine wpList_nil ?_
  have ST6 := Lib.hid (show Sta W O (.pointer none) [] [⟨b0, u.arr x, 74⟩] [⟨3, 1, v3, l.length, ints l⟩] (⟨a2, u.z.length, c2, ints u.z⟩ :: prows u x []) w4 from by rw [HL.out, List.length_append]; unfold ints; rw [List.map_append]; exact hst)
  clear hst ST5
  have IV := intsV_own (ST6.out.ownAt 0 rfl)
  obtain ⟨a3, c3, rfl, hst⟩ := ST6.out.asRow 0 rfl
  have ST7 := Lib.hid (show Sta W O (.pointer none) [] [⟨b0, u.arr x, 74⟩] [] (⟨a3, l.length, c3, ints l⟩ :: ⟨a2, u.z.length, c2, ints u.z⟩ :: prows u x []) w4 from hst)
  clear hst ST6
  have HIV := Lib.hid IV
  clear IV
  refine ⟨⟨⟨w4, ST7.out.blkAt 0 rfl⟩, rfl⟩, ?_⟩
  simp only [Act.put]
  refine wpV_e (by simp only [List.getElem?_toArray, List.getElem?_cons_succ, List.getElem?_cons_zero] <;> rfl) (by rfl) ?_
  go_wp2_with fail
  refine (values_any a3 l.length c3 _).mono ?_
  rintro e w5 ⟨rfl, hw5⟩
  obtain ⟨b5, hb5⟩ : ∃ b, b = w4.heap.size := ⟨_, rfl⟩
  rw [← hb5]
  have ST8 := Lib.hid (show Sta W O (.pointer none) [] [⟨b5, #[.slice a3 l.length c3], 25⟩, ⟨b0, u.arr x, 74⟩] [] (⟨a3, l.length, c3, ints l⟩ :: ⟨a2, u.z.length, c2, ints u.z⟩ :: prows u x []) w5 by rw [hw5]; exact ST7.out.box _ _ hb5)
  have IV2 := Lib.hid (HIV.out.below (show Below w4.heap.size w4 w5 by rw [hw5]; exact (Below.refl _ _).alloc (Nat.le_refl _) _))
  have hsz : w4.heap.size ≤ w5.heap.size := by rw [hw5, World.size_alloc]; omega
  have IV3 := Lib.hid (show IntsV w5.heap.size w5 (.slice a3 l.length c3) l from IV2.out.imp id (fun ⟨b, o, c, e, h1, h2⟩ => ⟨b, o, c, e, by omega, h2⟩))
  clear hw5 hb5 hsz IV2 HIV ST7
  go_wp2_with fail
  refine ⟨⟨⟨w5, ST8.out.blkAt 1 rfl⟩, rfl⟩, ?_⟩
  refine wpV_e (by simp only [List.getElem?_toArray, List.getElem?_cons_succ, List.getElem?_cons_zero] <;> rfl) (by rfl) ?_
  go_wp2_with fail
  refine (sorted_any b5 (.slice a3 l.length c3) l (by have := HG.out.e.len; have := HG.out.z.len; rw [HL.out, List.length_append]; omega) _ (ST8.out.cell 0 0 rfl rfl) (lt_heap (ST8.out.blkAt 0 rfl)) IV3.out).mono ?_
  rintro e w6 ⟨v6, rfl, ho_, hb_⟩
  have HEND := Lib.hid (show OwnOut (peAll u) W (.returned v6) w6 by unfold peAll; rw [← HL.out]; exact ST8.out.grow_own ho_ hb_)
  have ST9 := Lib.hid (show Sta W O (.pointer none) [] [⟨b5, #[.slice a3 l.length c3], 25⟩, ⟨b0, u.arr x, 74⟩] [] (⟨a3, l.length, c3, ints l⟩ :: ⟨a2, u.z.length, c2, ints u.z⟩ :: prows u x []) w6 from ST8.out.gr (Gr.of_below hb_))
  clear ho_ hb_ IV3 ST8
  go_wp2_with fail
  refine ⟨⟨⟨w6, ST9.out.blkAt 1 rfl⟩, rfl⟩, ?_⟩
  refine wpV_e (by simp only [List.getElem?_toArray, List.getElem?_cons_succ, List.getElem?_cons_zero] <;> rfl) (by rfl) ?_
  go_wp2_with fail
  refine ⟨⟨⟨w6, ST9.out.blkAt 1 rfl⟩, rfl⟩, ?_⟩
  refine wpV_done ?_
  clear this q0 q1 q2 q3 CE CZ
  go_wp2_with fail
  go_ret
  exact HEND.out

/-- what Match leaves -/
def MEnd (W : World) (O : Nat → Prop) (q : Pe) (l : List Int) (e : Ending) (w' : World) : Prop :=
  ∃ x' a c, e = .returned (.tuple #[.agg (q.arr x'), .slice a l.length c]) ∧ Sta W O (.pointer none) [] [] [] (prows q x' [⟨a, l.length, c, ints l⟩]) w'

set_option maxHeartbeats 4000000 in
set_option maxRecDepth 100000 in
theorem peersMatch_any (u : Pe) (x : PeP) (act : List Int) (aa : Option Addr) (ac : Nat) (O : Nat → Prop) (W : World) (hs : Sta W O (.pointer none) [] [] [] (prows u x [⟨aa, act.length, ac, ints act⟩]) W) (hg : u.Good) :
    Calls Try.prog 37 #[.agg (u.arr x), .slice aa act.length ac] W (MEnd W O (peMatch u act) (peNew u (peMatch u act))) := by
  obtain ⟨ip, hp1, hp2, hp3⟩ := info_pair Try.zeroPeers
  have HG := Lib.hid hg
  have CC := Lib.hid (fun n w (h1 : SlA w aa act.length ac (ints act)) => contains_any aa ac act n w h1)
  obtain ⟨qm, hqm⟩ : ∃ q, q = peMatch u act := ⟨_, rfl⟩
  rw [← hqm]
  have HQM := Lib.hid hqm
  clear hqm
  obtain ⟨w1, hw1⟩ : ∃ w1, w1 = (W.alloc (.cells (u.arr x) 74)).alloc (.cells peZ 74) := ⟨_, rfl⟩
  obtain ⟨b0, hb0⟩ : ∃ b, b = W.heap.size := ⟨_, rfl⟩
  obtain ⟨b1, hb1⟩ : ∃ b, b = W.heap.size + 1 := ⟨_, rfl⟩
  have ST1 := Lib.hid (show Sta W O (.pointer none) [] [⟨b1, peZ, 74⟩, ⟨b0, u.arr x, 74⟩] [] (prows u x [⟨aa, act.length, ac, ints act⟩]) w1 by rw [hw1]; exact (hs.box _ _ hb0).box _ _ (by rw [World.size_alloc]; exact hb1))
  have HW1 := Lib.hid hw1
  have HB0 := Lib.hid hb0
  have HB1 := Lib.hid hb1
  clear hw1 hb0 hb1 hs hg
  go_enter Try.func37, Try.ntmps37
  go_upto_region 1 with fail
  rw [← HW1.out, ← HB1.out, ← HB0.out]
  clear HW1 HB0 HB1
  refine wp_region_lit ?_
  refine wpList_load_mid (by rfl) 74 _ (by rfl) b0 0 (by rfl) (Array.toList (u.arr x)) _ (blk_range (ST1.out.blkAt 1 rfl)) Try.underlying74 rfl Try.infoPeers ?_
  go_wp2_with (refine wpList_fresh (vs := u.arr x) hp1 hp2 Try.infoPeers (by rfl) (by rw [← Array.all_toList]; rfl) (by rfl) (by rfl) ?_)
  intro w2 f_ b_ l_
  obtain ⟨b2, hb_⟩ : ∃ b, b = w1.heap.size := ⟨_, rfl⟩
  rw [← hb_] at b_ l_ ⊢
  have ST2 := Lib.hid (show Sta W O (.pointer none) [] [⟨b2, u.arr x, 74⟩, ⟨b1, peZ, 74⟩, ⟨b0, u.arr x, 74⟩] [] (prows u x [⟨aa, act.length, ac, ints act⟩]) w2 from ST1.out.var f_ b_ (Nat.le_of_eq hb_.symm))
  clear ST1 f_ b_ l_ hb_
  go_upto_region 2 with fail
  refine wp_region_lit ?_
  refine wpList_load_mid (by rfl) 74 _ (by rfl) b0 0 (by rfl) (Array.toList (u.arr x)) _ (blk_range (ST2.out.blkAt 2 rfl)) Try.underlying74 rfl Try.infoPeers ?_
  go_wp2_with fail
  refine (peersAll_any u x _ _ (ST2.out.enterN (prows u x []) (inC (at_ 0 rfl) (inC (at_ 1 rfl) inN))) HG.out).mono ?_
  rintro e w3 ⟨v3, rfl, ho_, hb_⟩
  have ST3 := Lib.hid (show Sta W O (.pointer none) [] [⟨b2, u.arr x, 74⟩, ⟨b1, peZ, 74⟩, ⟨b0, u.arr x, 74⟩] [⟨3, 1, v3, (peAll u).length, ints (peAll u)⟩] (prows u x [⟨aa, act.length, ac, ints act⟩]) w3 from ST2.out.ownIn (Gr.of_below hb_) ho_)
  clear ho_ hb_ ST2
  obtain ⟨la, lc, rfl, hst⟩ := ST3.out.asRow 0 rfl
  have ST4 := Lib.hid (show Sta W O (.pointer none) [] [⟨b2, u.arr x, 74⟩, ⟨b1, peZ, 74⟩, ⟨b0, u.arr x, 74⟩] [] (⟨la, (peAll u).length, lc, ints (peAll u)⟩ :: prows u x [⟨aa, act.length, ac, ints act⟩]) w3 from hst)
  clear hst ST3
  have l1 := (ST4.out.rowAt 0 rfl).le
  have l2 := (ST4.out.rowAt 0 rfl).max
  have l3 := (ST4.out.rowAt 3 rfl).le
  have l4 := (ST4.out.rowAt 3 rfl).max
  obtain ⟨l, hl⟩ : ∃ l, l = peAll u := ⟨_, rfl⟩
  rw [← hl] at l1
  have HL := Lib.hid hl
  have ST5 := Lib.hid (show Sta W O (.pointer none) [] [⟨b2, u.arr x, 74⟩, ⟨b1, peZ, 74⟩, ⟨b0, u.arr x, 74⟩] [] (⟨la, l.length, lc, ints l⟩ :: prows u x [⟨aa, act.length, ac, ints act⟩]) w3 from hl ▸ ST4.out)
  rw [← hl]
  clear hl ST4
  go_wp2_with fail
  go_loopw [15] (fun iv wr => ∃ (k : Nat) (q : Pe) (x' : PeP), iv = .int .i64 k ∧ k ≤ l.length ∧ q = (l.take k).foldl (peCut act) u ∧ q.Good ∧ Sta W O (.pointer none) [] [⟨b2, u.arr x, 74⟩, ⟨b1, peZ, 74⟩, ⟨b0, q.arr x', 74⟩] [] (prows q x' (⟨la, l.length, lc, ints l⟩ :: prows u x [⟨aa, act.length, ac, ints act⟩])) wr) (fun iv _ => l.length - (intOf iv).toNat)
  case atStart => exact ⟨0, u, x, rfl, Nat.zero_le _, rfl, HG.out, ST5.out.less (List.Sublist.refl _) (inC (at_ 1 rfl) (inC (at_ 2 rfl) (inC (at_ 0 rfl) (inC (at_ 1 rfl) (inC (at_ 2 rfl) (inC (at_ 3 rfl) inN))))))⟩
  case round =>
    obtain ⟨k, q, x', rfl, hk, hq, hgq, hst⟩ := hrel
    clear ST5
    have ST20 := Lib.hid hst
    have HQ := Lib.hid hq
    have GQ := Lib.hid hgq
    clear hst hq hgq
    by_cases hlt : k < l.length
    · obtain ⟨bl, ol, rfl, hc⟩ := (ST20.out.rowAt 2 rfl).int k hlt
      have hts : (l.take (k + 1)).foldl (peCut act) u = peCut act q l[k] := by rw [HQ.out, List.take_succ_eq_append_getElem hlt, List.foldl_append]; rfl
      have HTS := Lib.hid hts
      clear hts
      generalize l[k] = n at hc HTS
      have CK := Lib.hid (CC.out n)
      go_wp2_with fail
      refine (CK.out _ (ST20.out.rowAt 5 rfl)).mono ?_
      rintro e _ ⟨rfl, rfl⟩
      cases e1 : has act n
      case true =>
        have HN := Lib.hid (show peCut act q n = q by unfold peCut; rw [e1, if_pos rfl])
        clear e1 hc
        go_wp2_with fail
        go_roundw
        case rel => exact ⟨k + 1, q, x', by go_num, hlt, by rw [HTS.out, HN.out], GQ.out, ST20.out⟩
        case measure => simp [intOf]; omega
      case false =>
        have HN := Lib.hid (show peCut act q n = peDown q n by unfold peCut; rw [e1, if_neg (by decide)])
        clear e1 hc
        go_upto_region 6 with fail
        refine wp_region_lit ?_
        refine wpList_load_mid (by rfl) 74 _ (by rfl) b0 0 (by rfl) (Array.toList (q.arr x')) _ (blk_range (ST20.out.blkAt 2 rfl)) Try.underlying74 rfl Try.infoPeers ?_
        go_wp2_with fail
        refine (peersDown_any q x' n _ _ (ST20.out.enterN (prows q x' []) (inC (at_ 0 rfl) (inC (at_ 1 rfl) inN))) GQ.out).mono ?_
        intro e w5 hst
        obtain ⟨x2, rfl, hst2⟩ := hst
        have ST21 := Lib.hid (show Sta W O (.pointer none) [] [⟨b2, u.arr x, 74⟩, ⟨b1, peZ, 74⟩, ⟨b0, q.arr x', 74⟩] [] (prows (peDown q n) x2 (prows q x' (⟨some ⟨bl, ol, none⟩, l.length, lc, ints l⟩ :: prows u x [⟨aa, act.length, ac, ints act⟩]))) w5 from ST20.out.leaveN (inC (at_ 0 rfl) (inC (at_ 1 rfl) inN)) hst2)
        clear hst2 ST20
        go_wp2_with (refine wpList_storeW (vs := (peDown q n).arr x2) (ST21.out.blkAt 2 rfl) (by rfl) 74 _ _ (by rfl) (by rfl) (by rfl) rfl Try.infoPeers (by rw [← Array.all_toList]; rfl) ?_)
        intro w6 f_ b_
        have ST22 := Lib.hid (show Sta W O (.pointer none) [] [⟨b2, u.arr x, 74⟩, ⟨b1, peZ, 74⟩, ⟨b0, (peDown q n).arr x2, 74⟩] [] (prows (peDown q n) x2 (prows q x' (⟨some ⟨bl, ol, none⟩, l.length, lc, ints l⟩ :: prows u x [⟨aa, act.length, ac, ints act⟩]))) w6 from ST21.out.store 2 rfl f_ b_)
        clear ST21 f_ b_
        go_wp2_with fail
        go_roundw
        case rel => exact ⟨k + 1, peDown q n, x2, by go_num, hlt, by rw [HTS.out, HN.out], GQ.out.down n, ST22.out.less (List.Sublist.refl _) (inC (at_ 0 rfl) (inC (at_ 1 rfl) (inC (at_ 4 rfl) (inC (at_ 5 rfl) (inC (at_ 6 rfl) (inC (at_ 7 rfl) inN))))))⟩
        case measure => simp [intOf]; omega
    · obtain rfl : k = l.length := by omega
      have HQ1 := Lib.hid (show q = l.foldl (peCut act) u by rw [HQ.out, List.take_length])
      clear HQ hlt hk l1 l2
      generalize wr = wl at ST20 ⊢
      go_wp2_with fail
      go_loopw [29] (fun iv wr2 => ∃ (k2 : Nat) (q2 : Pe) (x2 : PeP), iv = .int .i64 k2 ∧ k2 ≤ act.length ∧ q2 = (act.take k2).foldl peUp q ∧ q2.Good ∧ Sta W O (.pointer none) [] [⟨b2, u.arr x, 74⟩, ⟨b1, peZ, 74⟩, ⟨b0, q2.arr x2, 74⟩] [] (prows q2 x2 (⟨la, l.length, lc, ints l⟩ :: prows u x [⟨aa, act.length, ac, ints act⟩])) wr2) (fun iv _ => act.length - (intOf iv).toNat)
      case atStart => exact ⟨0, q, x', rfl, Nat.zero_le _, rfl, GQ.out, ST20.out⟩
      case round =>
        obtain ⟨k2, q2, x2, rfl, hk, hq, hgq, hst⟩ := hrel
        have ST30 := Lib.hid hst
        have HQ2 := Lib.hid hq
        have GQ2 := Lib.hid hgq
        clear hst hq hgq ST20
        by_cases hlt : k2 < act.length
        · obtain ⟨bl, ol, rfl, hc⟩ := (ST30.out.rowAt 5 rfl).int k2 hlt
          have hts : (act.take (k2 + 1)).foldl peUp q = peUp q2 act[k2] := by rw [HQ2.out, List.take_succ_eq_append_getElem hlt, List.foldl_append]; rfl
          have HTS := Lib.hid hts
          clear hts
          generalize act[k2] = n at hc HTS
          go_upto_region 11 with fail
          clear hc
          refine wp_region_lit ?_
          refine wpList_load_mid (by rfl) 74 _ (by rfl) b0 0 (by rfl) (Array.toList (q2.arr x2)) _ (blk_range (ST30.out.blkAt 2 rfl)) Try.underlying74 rfl Try.infoPeers ?_
          go_wp2_with fail
          refine (peersUp_any q2 x2 n _ _ (ST30.out.enterN (prows q2 x2 []) (inC (at_ 0 rfl) (inC (at_ 1 rfl) inN))) GQ2.out).mono ?_
          intro e w5 hst
          obtain ⟨x3, rfl, hst2⟩ := hst
          have ST31 := Lib.hid (show Sta W O (.pointer none) [] [⟨b2, u.arr x, 74⟩, ⟨b1, peZ, 74⟩, ⟨b0, q2.arr x2, 74⟩] [] (prows (peUp q2 n) x3 (prows q2 x2 (⟨la, l.length, lc, ints l⟩ :: prows u x [⟨some ⟨bl, ol, none⟩, act.length, ac, ints act⟩]))) w5 from ST30.out.leaveN (inC (at_ 0 rfl) (inC (at_ 1 rfl) inN)) hst2)
          clear hst2 ST30
          go_wp2_with (refine wpList_storeW (vs := (peUp q2 n).arr x3) (ST31.out.blkAt 2 rfl) (by rfl) 74 _ _ (by rfl) (by rfl) (by rfl) rfl Try.infoPeers (by rw [← Array.all_toList]; rfl) ?_)
          intro w6 f_ b_
          have ST32 := Lib.hid (show Sta W O (.pointer none) [] [⟨b2, u.arr x, 74⟩, ⟨b1, peZ, 74⟩, ⟨b0, (peUp q2 n).arr x3, 74⟩] [] (prows (peUp q2 n) x3 (prows q2 x2 (⟨la, l.length, lc, ints l⟩ :: prows u x [⟨some ⟨bl, ol, none⟩, act.length, ac, ints act⟩]))) w6 from ST31.out.store 2 rfl f_ b_)
          clear ST31 f_ b_
          go_wp2_with fail
          go_roundw
          case rel => exact ⟨k2 + 1, peUp q2 n, x3, by go_num, hlt, HTS.out.symm, GQ2.out.up n, ST32.out.less (List.Sublist.refl _) (inC (at_ 0 rfl) (inC (at_ 1 rfl) (inC (at_ 4 rfl) (inC (at_ 5 rfl) (inC (at_ 6 rfl) (inC (at_ 7 rfl) inN))))))⟩
          case measure => simp [intOf]; omega
        · obtain rfl : k2 = act.length := by omega
          have HQ3 := Lib.hid (show qm = q2 by rw [HQM.out, HQ2.out, List.take_length, HQ1.out, HL.out]; rfl)
          clear HQ2 HQ1 HL HQM hlt hk l3 l4 CC GQ
          obtain rfl := HQ3.out
          clear HQ3
          generalize wr = wl2 at ST30 ⊢
          go_upto_region 13 with fail
          obtain ⟨wd, hwd⟩ : ∃ x, x = wl2.drew := ⟨_, rfl⟩
          have HWD := Lib.hid hwd
          have ST31 := Lib.hid (show Sta W O (.pointer none) [] [⟨b2, u.arr x, 74⟩, ⟨b1, peZ, 74⟩, ⟨b0, qm.arr x2, 74⟩] [] (prows qm x2 (⟨la, l.length, lc, ints l⟩ :: prows u x [⟨aa, act.length, ac, ints act⟩])) wd from hwd ▸ ST30.out.gr ((Fr.refl _ _).drew))
          clear ST30 hwd
          haveI : Nonempty (WC (fun w => w.heap[b0]? = some (.cells (qm.arr x2) 74 (0, 0)) ∧ w.heap[b2]? = some (.cells (u.arr x) 74 (0, 0)))) := ⟨⟨wd, ⟨ST31.out.blkAt 2 rfl, ST31.out.blkAt 0 rfl⟩⟩⟩
          refine wp_region_plan [2, 5, 6, 7] (Plan.seq [0, 1, 2, 3, 4, 5, 6, 7] .done) (fun w' => ∃ z : WC (fun w => w.heap[b0]? = some (.cells (qm.arr x2) 74 (0, 0)) ∧ w.heap[b2]? = some (.cells (u.arr x) 74 (0, 0))), w' = z.val) (by kernel_rfl) (by kernel_rfl) (fun c a w d v h => by cases d <;> exact h) (fun c a w d v h => by cases d <;> exact h) (by rw [← HWD.out]; exact ⟨⟨wd, ⟨ST31.out.blkAt 2 rfl, ST31.out.blkAt 0 rfl⟩⟩, rfl⟩) ?_
          rw [← HWD.out]
          clear HWD
          refine wpV_q (by simp only [List.getElem?_toArray, List.getElem?_cons_zero] <;> rfl) (by rfl) (by rfl) ?_
          refine wpQuiet_loadH (by rfl) 74 _ (by rfl) b0 0 (by rfl) (Array.toList (qm.arr x2)) _ (fun w ⟨z, hz⟩ => hz ▸ blk_range z.ok.1) Try.underlying74 rfl Try.infoPeers ?_
          refine wpQuiet_nil ?_
          simp only [Act.put, List.setIfInBounds_toArray, List.set_cons_succ, List.set_cons_zero]
          refine wpV_q (by simp only [List.getElem?_toArray, List.getElem?_cons_succ, List.getElem?_cons_zero] <;> rfl) (by rfl) (by rfl) ?_
          refine wpQuiet_loadH (by rfl) 74 _ (by rfl) b0 0 (by rfl) (Array.toList (qm.arr x2)) _ (fun w ⟨z, hz⟩ => hz ▸ blk_range z.ok.1) Try.underlying74 rfl Try.infoPeers ?_
          refine wpQuiet_nil ?_
          simp only [Act.put, List.setIfInBounds_toArray, List.set_cons_succ, List.set_cons_zero]
          refine wpV_e (by simp only [List.getElem?_toArray, List.getElem?_cons_succ, List.getElem?_cons_zero] <;> rfl) (by rfl) ?_
          go_wp2_with fail
          refine (peersAll_any qm x2 _ _ (ST31.out.enterN (prows qm x2 []) (inC (at_ 0 rfl) (inC (at_ 1 rfl) inN))) GQ2.out).mono ?_
          rintro e w5 ⟨v5, rfl, ho_, hb_⟩
          have ST32 := Lib.hid (show Sta W O (.pointer none) [] [⟨b2, u.arr x, 74⟩, ⟨b1, peZ, 74⟩, ⟨b0, qm.arr x2, 74⟩] [⟨3, 1, v5, (peAll qm).length, ints (peAll qm)⟩] (prows qm x2 (⟨la, l.length, lc, ints l⟩ :: prows u x [⟨aa, act.length, ac, ints act⟩])) w5 from ST31.out.ownIn (Gr.of_below hb_) ho_)
          clear ho_ hb_ ST31
          go_wp2_with fail
          refine ⟨⟨⟨w5, ⟨ST32.out.blkAt 2 rfl, ST32.out.blkAt 0 rfl⟩⟩, rfl⟩, ?_⟩
          refine wpV_q (by simp only [List.getElem?_toArray, List.getElem?_cons_succ, List.getElem?_cons_zero] <;> rfl) (by rfl) (by rfl) ?_
          refine wpQuiet_loadH (by rfl) 74 _ (by rfl) b2 0 (by rfl) (Array.toList (u.arr x)) _ (fun w ⟨z, hz⟩ => hz ▸ blk_range z.ok.2) Try.underlying74 rfl Try.infoPeers ?_
          refine wpQuiet_nil ?_
          simp only [Act.put, List.setIfInBounds_toArray, List.set_cons_succ, List.set_cons_zero]
          refine wpV_q (by simp only [List.getElem?_toArray, List.getElem?_cons_succ, List.getElem?_cons_zero] <;> rfl) (by rfl) (by rfl) ?_
          go_big_quiet_step (fail)
          refine wpQuiet_nil ?_
          refine wpV_e (by simp only [List.getElem?_toArray, List.getElem?_cons_succ, List.getElem?_cons_zero] <;> rfl) (by rfl) ?_
          have hpm : PredM 65 #[.agg (u.arr x)] (fun n => peHas u n) (fun k => v5.ownBlock = some k) w5 := by
            refine ⟨enters_of Try.func65 (by kernel_rfl) rfl, fun n w' f => ?_⟩
            exact peersHas_any u x n w' ((ST32.out.rowAt 3 rfl).keepC f (fun hn q hq hv => (ST32.out.far _ (at_ 3 rfl) hn q hq).2.2.1 _ (at_ 0 rfl) hv)) ((ST32.out.rowAt 4 rfl).keepC f (fun hn q hq hv => (ST32.out.far _ (at_ 4 rfl) hn q hq).2.2.1 _ (at_ 0 rfl) hv)) HG.out
          have HPM := Lib.hid hpm
          clear hpm
          go_wp2_with fail
          refine (deleteFuncM_any _ _ _ _ v5 (peAll qm) w5 (ST32.out.ownAt 0 rfl) HPM.out (by rw [all_len]; have := GQ2.out.fit; omega)).mono ?_
          rintro e w6 ⟨da, dc, rfl, hsd, hfd, had⟩
          have ST33 := Lib.hid (show Sta W O (.pointer none) [] [⟨b2, u.arr x, 74⟩, ⟨b1, peZ, 74⟩, ⟨b0, qm.arr x2, 74⟩] [] (⟨da, (peNew u qm).length, dc, ints (peNew u qm)⟩ :: prows qm x2 (⟨la, l.length, lc, ints l⟩ :: prows u x [⟨aa, act.length, ac, ints act⟩])) w6 from ST32.out.spend hfd hsd had)
          clear hsd hfd had HPM ST32
          obtain ⟨ln, hln⟩ : ∃ l, l = peNew u qm := ⟨_, rfl⟩
          have ST34 := Lib.hid (show Sta W O (.pointer none) [] [⟨b2, u.arr x, 74⟩, ⟨b1, peZ, 74⟩, ⟨b0, qm.arr x2, 74⟩] [] (⟨da, ln.length, dc, ints ln⟩ :: prows qm x2 (⟨la, l.length, lc, ints l⟩ :: prows u x [⟨aa, act.length, ac, ints act⟩])) w6 from hln ▸ ST33.out)
          rw [show kept (fun n => peHas u n) (peAll qm) = ln from hln.symm]
          have HLN := Lib.hid hln
          clear hln ST33
          go_wp2_with fail
          refine ⟨⟨⟨w6, ⟨ST34.out.blkAt 2 rfl, ST34.out.blkAt 0 rfl⟩⟩, rfl⟩, ?_⟩
          refine wpV_e (by simp only [List.getElem?_toArray, List.getElem?_cons_succ, List.getElem?_cons_zero] <;> rfl) (by rfl) ?_
          refine wpList_storeW (vs := qm.arr x2) (ST34.out.blkAt 1 rfl) (by rfl) 74 _ _ (by rfl) (by rfl) (by rfl) rfl Try.infoPeers (by rw [← Array.all_toList]; rfl) ?_
          intro w7 f_ b_
          have ST35 := Lib.hid (show Sta W O (.pointer none) [] [⟨b2, u.arr x, 74⟩, ⟨b1, qm.arr x2, 74⟩, ⟨b0, qm.arr x2, 74⟩] [] (⟨da, ln.length, dc, ints ln⟩ :: prows qm x2 (⟨la, l.length, lc, ints l⟩ :: prows u x [⟨aa, act.length, ac, ints act⟩])) w7 from ST34.out.store 1 rfl f_ b_)
          clear ST34 f_ b_
          refine wpList_nil ?_
          refine ⟨⟨⟨w7, ⟨ST35.out.blkAt 2 rfl, ST35.out.blkAt 0 rfl⟩⟩, rfl⟩, ?_⟩
          simp only [Act.put]
          refine wpV_e (by simp only [List.getElem?_toArray, List.getElem?_cons_succ, List.getElem?_cons_zero] <;> rfl) (by rfl) ?_
          go_wp2_with fail
          refine ⟨⟨⟨w7, ⟨ST35.out.blkAt 2 rfl, ST35.out.blkAt 0 rfl⟩⟩, rfl⟩, ?_⟩
          refine wpV_done ?_
          have LL : Hid ((loadVar 74 ⟨b1, 0, none⟩).run Try.prog w7 = .ok (.agg (qm.arr x2)) w7) := Lib.hid (run_loadVar_mid w7 b1 0 74 (Array.toList (qm.arr x2)) _ (blk_range (ST35.out.blkAt 1 rfl)) Try.underlying74 rfl Try.infoPeers)
          have LA : Hid ((asAddr (.pointer (some ⟨b1, 0, none⟩))).run Try.prog w7 = .ok ⟨b1, 0, none⟩ w7) := Lib.hid (by simp [go_sem])
          go_wp2_with fail
          refine bodyPost_ret (v := .tuple #[.agg (qm.arr x2), .slice da ln.length dc]) (by simp [results, Try.results37, Sem.run_bind, Result.andThen_ok, LL.out, LA.out]) rfl ?_
          rw [← HLN.out]
          exact ⟨x2, da, dc, rfl, ST35.out.out (List.Sublist.refl _) (inC (at_ 1 rfl) (inC (at_ 2 rfl) (inC (at_ 0 rfl) inN)))⟩
end Go.Proofs.Ytelepohdfcjnfaa
