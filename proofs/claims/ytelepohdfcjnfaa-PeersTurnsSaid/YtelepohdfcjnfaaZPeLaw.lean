/-
  The statements' helpers on peers: same, speaks (printed by gen_pelaw.py).
-/
import Derived.Test.YtelepohdfcjnfaaZPeersB
import Derived.Test.YtelepohdfcjnfaaZRPeersC
namespace Go.Proofs.Ytelepohdfcjnfaa
open Go.RowKit Go.Proofs

def pc2 (p : Int × Int) : List Value := [.int .i64 p.1, .int .i64 p.2]
theorem rem5 (x : Int) : ∃ r1 r2 : Int, x.tmod 5 = r1 ∧ (r1 + 5).tmod 5 = r2 ∧ -5 < r1 ∧ r1 < 5 ∧ 0 ≤ r2 ∧ r2 < 5 := by
  refine ⟨_, _, rfl, rfl, ?_, ?_, ?_, ?_⟩
  · have h1 := Int.tmod_lt_of_pos (-x) (show (0 : Int) < 5 by omega)
    rw [Int.neg_tmod] at h1
    omega
  · exact Int.tmod_lt_of_pos x (by omega)
  · have h1 := Int.tmod_lt_of_pos (-x) (show (0 : Int) < 5 by omega)
    rw [Int.neg_tmod] at h1
    exact Int.tmod_nonneg 5 (by omega)
  · exact Int.tmod_lt_of_pos _ (by omega)
theorem PLike.few {u m : Pe} (h : PLike u m) (g : u.Good) : m.Few := ⟨by rw [h.len.1]; have := g.e.len; omega, by rw [h.len.2]; have := g.z.len; omega⟩
theorem plike_none : PLike ⟨[], []⟩ ⟨[], []⟩ := ⟨List.Perm.refl _, List.Perm.refl _⟩
theorem Sta.grW {W : World} {O : Nat → Prop} {B : List Blk} {L : List Ow} {R : List Rw} {w : World} (h : Sta W O (.pointer none) [] B L R w) : Gr W w := h.fr.mono (fun k _ e => absurd e (pn_no k))
theorem sla_noneP {w : World} {n cap : Nat} {l : List Int} (h : SlA w none n cap (ints l)) : l = [] := by
  cases l with
  | nil => rfl
  | cons x r => obtain ⟨b, o, e, _⟩ := h.cell 0 _ rfl; cases e
set_option maxHeartbeats 2000000 in
set_option maxRecDepth 100000 in
theorem rpSorted_none (cap : Nat) (w : World) :
    Calls Try.prog 67 #[.slice none 0 cap] w (RowOut [] w) := by
  go_enter Try.func67, Try.ntmps67
  go_wp2_with fail
  go_loopw [4, 5] (fun iv _ wr => ∃ (i : Nat), iv = .int .i64 i ∧ 1 ≤ i ∧ Gr w wr) (fun iv _ _ => 0)
  case atStart => exact ⟨1, rfl, Nat.le_refl _, (Fr.refl _ _).alloc _⟩
  case round =>
    obtain ⟨i, rfl, hi, hf⟩ := hrel
    have hlt : decide ((i : Int) < 0) = false := by simp
    have HF := Lib.hid hf; clear hf
    go_wp2_with fail
    go_ret
    exact ⟨_, _, rfl, ⟨Nat.le_refl _, by simp, fun j u h => by simp at h⟩, HF.out⟩
set_option maxHeartbeats 2000000 in
set_option maxRecDepth 100000 in
theorem rpSorted_some (q : Addr) (cap : Nat) (w : World) : Calls Try.prog 67 #[.slice (some q) 0 cap] w (RowOut [] w) := by
  obtain ⟨i0, hi, hz0, hz1, hz2⟩ := info_parts Try.infoint
  go_enter Try.func67, Try.ntmps67
  go_wp2_with (at_builtin; refine wpList_append_own _ rfl _ _ 25 rfl w.heap.size 3 i0 (.int .i64 0) 1 8 Try.underlying25 hi hz0 hz1 hz2 rfl (by decide) _ _ _ rfl (own_empty w _ _ (Nat.le_refl _)) q 0 cap [] rfl (by simp) (by intro j u hj; simp at hj) (by simp) (by unfold maxLen; omega) (by omega) (by simp) ?_)
  intro v1 w1 hown1 hgrow1 hiff
  have hfr1 : Gr w w1 := ((Fr.refl (fun _ => False) w).alloc _).grown hgrow1 (fun q hq => .inr (by simp [Value.ownBlock] at hq; omega))
  obtain ⟨a1, c1, rfl, h1, -⟩ := SlA.of_own hown1
  have F1 := Lib.hid hfr1
  have hc9 := h1.max
  clear hown1 hgrow1 hiff hfr1 h1
  go_wp2_with fail
  go_loopw [4, 5] (fun iv _ wr => ∃ (i : Nat), iv = .int .i64 i ∧ 1 ≤ i ∧ Gr w wr) (fun iv _ _ => 0)
  case atStart => exact ⟨1, rfl, Nat.le_refl _, F1.out⟩
  case round =>
    obtain ⟨i, rfl, hi, hf⟩ := hrel
    have hlt : decide ((i : Int) < 0) = false := by simp
    have HF := Lib.hid hf; clear hf
    go_wp2_with fail
    go_ret
    exact ⟨_, _, rfl, ⟨Nat.zero_le _, hc9, fun j u h => by simp at h⟩, HF.out⟩
theorem rpSorted_sl (a : Option Addr) (cap : Nat) (l t : List Int) (w : World) (h : SlA w a l.length cap (ints l)) (hp : t.Perm l) (ht : t.Pairwise (· ≤ ·)) (hn : l.length ≤ 100) :
    Calls Try.prog 67 #[.slice a l.length cap] w (RowOut t w) := by
  cases a with
  | none =>
    obtain rfl := sla_noneP h
    obtain rfl : t = [] := List.perm_nil.1 hp
    exact rpSorted_none cap w
  | some q =>
    cases l with
    | nil =>
      obtain rfl : t = [] := List.perm_nil.1 hp
      exact rpSorted_some q cap w
    | cons x r =>
      obtain ⟨b, o, e, _⟩ := h.cell 0 _ rfl
      cases e
      exact refSorted_any b o cap (x :: r) t w h hp ht (by omega)

set_option maxHeartbeats 4000000 in
set_option maxRecDepth 100000 in
theorem psSame_any (u m : Pe) (x y : PeP) (O : Nat → Prop) (W : World) (hs : Sta W O (.pointer none) [] [] [] (prows u x (prows m y [])) W) (hl : PLike u m) (hg : u.Good) :
    Calls Try.prog 35 #[.agg (u.arr x), .agg (m.rarr y)] W fun e w' => e = .returned (.bool true) ∧ Gr W w' := by
  have HG := Lib.hid hg
  have HL := Lib.hid hl
  have HFF := Lib.hid (show m.Few from ⟨by rw [hl.len.1]; have := hg.e.len; omega, by rw [hl.len.2]; have := hg.z.len; omega⟩)
  obtain ⟨w1, hw1⟩ : ∃ w1, w1 = (W.alloc (.cells (u.arr x) 74)).alloc (.cells (m.rarr y) 77) := ⟨_, rfl⟩
  obtain ⟨b0, hb0⟩ : ∃ b, b = W.heap.size := ⟨_, rfl⟩
  obtain ⟨b1, hb1⟩ : ∃ b, b = W.heap.size + 1 := ⟨_, rfl⟩
  have ST1 := Lib.hid (show Sta W O (.pointer none) [] [⟨b1, m.rarr y, 77⟩, ⟨b0, u.arr x, 74⟩] [] (prows u x (prows m y [])) w1 by rw [hw1]; exact (hs.box _ _ hb0).box _ _ (by rw [World.size_alloc]; exact hb1))
  have HW1 := Lib.hid hw1
  have HB0 := Lib.hid hb0
  have HB1 := Lib.hid hb1
  clear hw1 hb0 hb1 hs hg hl
  go_enter Try.func35, Try.ntmps35
  go_upto_region 1 with fail
  rw [← HW1.out, ← HB1.out, ← HB0.out]
  clear HW1 HB0 HB1
  have YE := Lib.hid (fun w (f : Gr w1 w) => setAll_any x.ea x.ec u.e 64 w ((ST1.out.gr f).rowAt 0 rfl) HG.out.e)
  have YZ := Lib.hid (fun w (f : Gr w1 w) => setAll_any x.za x.zc u.z 64 w ((ST1.out.gr f).rowAt 1 rfl) HG.out.z)
  have ZE := Lib.hid (fun w (f : Gr w1 w) => rpSorted_sl y.ea y.ec m.e u.e w ((ST1.out.gr f).rowAt 2 rfl) HL.out.e HG.out.e.le (by have := HFF.out.e; omega))
  have ZZ := Lib.hid (fun w (f : Gr w1 w) => rpSorted_sl y.za y.zc m.z u.z w ((ST1.out.gr f).rowAt 3 rfl) HL.out.z HG.out.z.le (by have := HFF.out.z; omega))
  have YA := Lib.hid (fun w (f : Gr w1 w) => peersAll_any u x _ w ((ST1.out.gr f).enterN (prows u x []) (inC (at_ 0 rfl) (inC (at_ 1 rfl) inN))) HG.out)
  have ZA := Lib.hid (fun w (f : Gr w1 w) => rpAll_any m y _ w ((ST1.out.gr f).enterN (prows m y []) (inC (at_ 2 rfl) (inC (at_ 3 rfl) inN))) HFF.out)
  rw [HL.out.all] at ZA
  haveI : Nonempty (WC (Gr w1)) := ⟨⟨w1, Fr.refl _ _⟩⟩
  have y0 : ∀ z2 : WC (Gr w1), z2.val.cell? ⟨b0, 0, none⟩ = some (.slice x.ea u.e.length x.ec) := fun z2 => z2.ok.cell (ST1.out.cell 1 0 rfl rfl) (fun h => h)
  have y1 : ∀ z2 : WC (Gr w1), z2.val.cell? ⟨b0, 1, none⟩ = some (.int .i64 64) := fun z2 => z2.ok.cell (ST1.out.cell 1 1 rfl rfl) (fun h => h)
  have y2 : ∀ z2 : WC (Gr w1), z2.val.cell? ⟨b0, 2, none⟩ = some (.slice x.za u.z.length x.zc) := fun z2 => z2.ok.cell (ST1.out.cell 1 2 rfl rfl) (fun h => h)
  have y3 : ∀ z2 : WC (Gr w1), z2.val.cell? ⟨b0, 3, none⟩ = some (.int .i64 64) := fun z2 => z2.ok.cell (ST1.out.cell 1 3 rfl rfl) (fun h => h)
  have x0 : ∀ z2 : WC (Gr w1), z2.val.cell? ⟨b1, 0, none⟩ = some (.slice y.ea m.e.length y.ec) := fun z2 => z2.ok.cell (ST1.out.cell 0 0 rfl rfl) (fun h => h)
  have x1 : ∀ z2 : WC (Gr w1), z2.val.cell? ⟨b1, 1, none⟩ = some (.slice y.za m.z.length y.zc) := fun z2 => z2.ok.cell (ST1.out.cell 0 1 rfl rfl) (fun h => h)
  refine wp_region_plan [2, 5, 6, 10, 13, 14, 18, 20, 21] (Plan.seq [0, 1, 2, 3, 4, 5, 6, 7, 8, 9, 10, 11, 12, 13, 14, 15, 16, 17, 18, 19, 20, 21, 22, 23] .done) (fun w' => ∃ z' : WC (Gr w1), w' = z'.val) (by kernel_rfl) (by kernel_rfl) (fun c a w d v h => by cases d <;> exact h) (fun c a w d v h => by cases d <;> exact h) ⟨⟨w1.drew, (Fr.refl _ _).drew⟩, rfl⟩ ?_
  simp only [Plan.seq, List.foldr]
  refine wpV_q (by simp only [List.getElem?_toArray, List.getElem?_cons_zero] <;> rfl) (by rfl) (by rfl) ?_
  go_big_quiet_step (fail)
  refine wpQuiet_nil ?_
  repeat (refine wpV_q (by simp only [List.getElem?_toArray, List.getElem?_cons_succ, List.getElem?_cons_zero] <;> rfl) (by rfl) (by rfl) ?_; go_big_quiet_step (fail); refine wpQuiet_nil ?_)
  refine wpV_e (by simp only [List.getElem?_toArray, List.getElem?_cons_succ, List.getElem?_cons_zero] <;> rfl) (by rfl) ?_
  go_wp2_with fail
  refine (YE.out _ (show Gr w1 w1.drew from (Fr.refl _ _).drew)).mono ?_
  rintro e w20 ⟨vv, rfl, ho, hb⟩
  obtain ⟨a20, c20, rfl, h20, -⟩ := SlA.of_own ho
  have F20 : Gr w1 w20 := Gr.trans (show Gr w1 w1.drew from (Fr.refl _ _).drew) (Gr.of_below hb)
  clear ho hb
  go_wp2_with fail
  refine ⟨⟨⟨w20, F20⟩, rfl⟩, ?_⟩
  repeat (refine wpV_q (by simp only [List.getElem?_toArray, List.getElem?_cons_succ, List.getElem?_cons_zero] <;> rfl) (by rfl) (by rfl) ?_; go_big_quiet_step (fail); refine wpQuiet_nil ?_)
  refine wpV_e (by simp only [List.getElem?_toArray, List.getElem?_cons_succ, List.getElem?_cons_zero] <;> rfl) (by rfl) ?_
  go_wp2_with fail
  refine (ZE.out _ F20).mono ?_
  rintro e w21 ⟨a21, c21, rfl, h21, f_⟩
  have F21 : Gr w1 w21 := Gr.trans F20 f_
  have h22 := h20.keep f_ (fun _ _ h => h)
  clear f_ h20
  go_wp2_with fail
  refine ⟨⟨⟨w21, F21⟩, rfl⟩, ?_⟩
  refine wpV_e (by simp only [List.getElem?_toArray, List.getElem?_cons_succ, List.getElem?_cons_zero] <;> rfl) (by rfl) ?_
  go_wp2_with fail
  refine (refSame_any a20 c20 u.e a21 c21 u.e _ h22 h21).mono ?_
  rintro e w22 ⟨rfl, q20, hq20⟩
  rw [(same_iff u.e u.e).2 rfl]
  have F22 : Gr w1 w22 := by rw [hq20]; exact F21.drewN q20
  clear hq20 h22 h21 F20 F21
  go_wp2_with fail
  refine ⟨⟨⟨w22, F22⟩, rfl⟩, ?_⟩
  repeat (refine wpV_q (by simp only [List.getElem?_toArray, List.getElem?_cons_succ, List.getElem?_cons_zero] <;> rfl) (by rfl) (by rfl) ?_; go_big_quiet_step (fail); refine wpQuiet_nil ?_)
  refine wpV_e (by simp only [List.getElem?_toArray, List.getElem?_cons_succ, List.getElem?_cons_zero] <;> rfl) (by rfl) ?_
  go_wp2_with fail
  refine (YZ.out _ F22).mono ?_
  rintro e w30 ⟨vv, rfl, ho, hb⟩
  obtain ⟨a30, c30, rfl, h30, -⟩ := SlA.of_own ho
  have F30 : Gr w1 w30 := Gr.trans F22 (Gr.of_below hb)
  clear ho hb
  go_wp2_with fail
  refine ⟨⟨⟨w30, F30⟩, rfl⟩, ?_⟩
  repeat (refine wpV_q (by simp only [List.getElem?_toArray, List.getElem?_cons_succ, List.getElem?_cons_zero] <;> rfl) (by rfl) (by rfl) ?_; go_big_quiet_step (fail); refine wpQuiet_nil ?_)
  refine wpV_e (by simp only [List.getElem?_toArray, List.getElem?_cons_succ, List.getElem?_cons_zero] <;> rfl) (by rfl) ?_
  go_wp2_with fail
  refine (ZZ.out _ F30).mono ?_
  rintro e w31 ⟨a31, c31, rfl, h31, f_⟩
  have F31 : Gr w1 w31 := Gr.trans F30 f_
  have h32 := h30.keep f_ (fun _ _ h => h)
  clear f_ h30
  go_wp2_with fail
  refine ⟨⟨⟨w31, F31⟩, rfl⟩, ?_⟩
  refine wpV_e (by simp only [List.getElem?_toArray, List.getElem?_cons_succ, List.getElem?_cons_zero] <;> rfl) (by rfl) ?_
  go_wp2_with fail
  refine (refSame_any a30 c30 u.z a31 c31 u.z _ h32 h31).mono ?_
  rintro e w32 ⟨rfl, q20, hq20⟩
  rw [(same_iff u.z u.z).2 rfl]
  have F32 : Gr w1 w32 := by rw [hq20]; exact F31.drewN q20
  clear hq20 h32 h31 F30 F31
  go_wp2_with fail
  refine ⟨⟨⟨w32, F32⟩, rfl⟩, ?_⟩
  repeat (refine wpV_q (by simp only [List.getElem?_toArray, List.getElem?_cons_succ, List.getElem?_cons_zero] <;> rfl) (by rfl) (by rfl) ?_; go_big_quiet_step (fail); refine wpQuiet_nil ?_)
  refine wpV_e (by simp only [List.getElem?_toArray, List.getElem?_cons_succ, List.getElem?_cons_zero] <;> rfl) (by rfl) ?_
  go_wp2_with fail
  refine (YA.out _ F32).mono ?_
  rintro e w40 ⟨vv, rfl, ho, hb⟩
  obtain ⟨a40, c40, rfl, h40, -⟩ := SlA.of_own ho
  have F40 : Gr w1 w40 := Gr.trans F32 (Gr.of_below hb)
  clear ho hb
  go_wp2_with fail
  refine ⟨⟨⟨w40, F40⟩, rfl⟩, ?_⟩
  repeat (refine wpV_q (by simp only [List.getElem?_toArray, List.getElem?_cons_succ, List.getElem?_cons_zero] <;> rfl) (by rfl) (by rfl) ?_; go_big_quiet_step (fail); refine wpQuiet_nil ?_)
  refine wpV_e (by simp only [List.getElem?_toArray, List.getElem?_cons_succ, List.getElem?_cons_zero] <;> rfl) (by rfl) ?_
  go_wp2_with fail
  refine (ZA.out _ F40).mono ?_
  rintro e w41 ⟨a41, c41, rfl, h41, -, f_⟩
  have F41 : Gr w1 w41 := Gr.trans F40 f_
  have h42 := h40.keep f_ (fun _ _ h => h)
  clear f_ h40
  go_wp2_with fail
  refine ⟨⟨⟨w41, F41⟩, rfl⟩, ?_⟩
  refine wpV_e (by simp only [List.getElem?_toArray, List.getElem?_cons_succ, List.getElem?_cons_zero] <;> rfl) (by rfl) ?_
  go_wp2_with fail
  refine (refSame_any a40 c40 (peAll u) a41 c41 (peAll u) _ h42 h41).mono ?_
  rintro e w42 ⟨rfl, q20, hq20⟩
  rw [(same_iff (peAll u) (peAll u)).2 rfl]
  have F42 : Gr w1 w42 := by rw [hq20]; exact F41.drewN q20
  clear hq20 h42 h41 F40 F41
  go_wp2_with fail
  refine ⟨⟨⟨w42, F42⟩, rfl⟩, ?_⟩
  repeat (refine wpV_q (by simp only [List.getElem?_toArray, List.getElem?_cons_succ, List.getElem?_cons_zero] <;> rfl) (by rfl) (by rfl) ?_; go_big_quiet_step (fail); refine wpQuiet_nil ?_)
  refine wpV_done ?_
  have FZ := Lib.hid F42
  clear this y0 y1 y2 y3 x0 x1
  go_wp2_with fail
  clear YE YZ ZE ZZ YA ZA
  go_ret
  exact ⟨rfl, Gr.trans ST1.out.grW FZ.out⟩
set_option maxHeartbeats 4000000 in
set_option maxRecDepth 100000 in
theorem speaks17_any (W : World) : Calls Try.prog 25 #[] W fun e w' => e = .returned (.bool true) ∧ Gr W w' := by
  obtain ⟨ip, hp1, hp2, hp3⟩ := info_pair Try.zeroPeers
  obtain ⟨u0, h0⟩ : ∃ u : Pe, u = ⟨[], []⟩ := ⟨_, rfl⟩
  obtain ⟨u1, h1⟩ : ∃ u : Pe, u = ⟨[2], []⟩ := ⟨_, rfl⟩
  obtain ⟨u2, h2⟩ : ∃ u : Pe, u = ⟨[], [2]⟩ := ⟨_, rfl⟩
  have e1 : peUp u0 2 = u1 := by rw [h0, h1]; rfl
  have e2 : pePrune u1 2 = (u2, true) := by rw [h1, h2]; rfl
  have e3 : peGraft u2 2 = u1 := by rw [h1, h2]; rfl
  have e4 : peGraft u1 3 = u1 := by rw [h1]; rfl
  have g0 : u0.Good := by rw [h0]; exact pe_none
  have g1 : u1.Good := e1 ▸ g0.up 2
  have g2 : u2.Good := by have := g1.prune 2; rw [e2] at this; exact this
  have b1 : has u1.e 2 = true := by rw [h1]; rfl
  have b2 : has u1.e 3 = false := by rw [h1]; rfl
  have b3 : has u2.z 2 = true := by rw [h2]; rfl
  have b4 : has u2.e 2 = false := by rw [h2]; rfl
  have hall : peAll u1 = [2] := by rw [h1]; simp [peAll, srt]
  have CN := Lib.hid (fun w => (h0 ▸ peersNew_any w : Calls Try.prog 26 #[] w fun e w' => e = .returned (.agg (u0.arr peNoP)) ∧ Gr w w'))
  have C1 := Lib.hid (fun x O w h => (e1 ▸ peersUp_any u0 x 2 O w h g0 : Calls Try.prog _ _ w (PEnd w O u1 (fun a => .agg a))))
  have C2 := Lib.hid (fun x O w h => peersPrune_any u1 x 2 O w h g1)
  rw [e2] at C2
  have C3 := Lib.hid (fun x O w h => peersGraft_any u2 x 2 O w h g2)
  rw [e3, b1] at C3
  have C4 := Lib.hid (fun x O w h => peersGraft_any u1 x 3 O w h g1)
  rw [e4, b2] at C4
  have CA := Lib.hid (fun x O w h => peersAll_any u1 x O w h g1)
  have CZ := Lib.hid (fun (x : PeP) w (h : SlA w x.za u2.z.length x.zc (ints u2.z)) => setHas_any x.za x.zc u2.z 64 2 w h g2.z)
  have CE := Lib.hid (fun (x : PeP) w (h : SlA w x.ea u2.e.length x.ec (ints u2.e)) => setHas_any x.ea x.ec u2.e 64 2 w h g2.e)
  have CF := Lib.hid (fun (x : PeP) w (h : SlA w x.ea u1.e.length x.ec (ints u1.e)) => setHas_any x.ea x.ec u1.e 64 2 w h g1.e)
  rw [b3] at CZ
  rw [b4] at CE
  rw [b1] at CF
  have HALL := Lib.hid hall
  have H0 := Lib.hid h0
  clear h0 h1 h2 e1 e2 e3 e4 g0 g1 g2 b1 b2 b3 b4 hall
  go_enter Try.func25, Try.ntmps25
  go_wp2_with fail
  refine (CN.out _).mono ?_
  rintro e w1 ⟨rfl, f1⟩
  have ST1 := Lib.hid (show Sta W (fun _ => True) (.pointer none) [] [] [] (prows u0 peNoP []) w1 from (((Sta.initR (W := W) (R := []) (fun _ h => nomatch h)).gr f1).addNil (r := ⟨none, u0.z.length, 0, ints u0.z⟩) (by rw [H0.out]; rfl) (by rw [H0.out]; decide) (Nat.zero_le _)).addNil (r := ⟨none, u0.e.length, 0, ints u0.e⟩) (by rw [H0.out]; rfl) (by rw [H0.out]; decide) (Nat.zero_le _))
  clear f1 H0 CN
  go_wp2_with fail
  refine (C1.out peNoP _ _ (ST1.out.enterN (prows u0 peNoP []) (inC (at_ 0 rfl) (inC (at_ 1 rfl) inN)))).mono ?_
  intro e w2 hst
  obtain ⟨x1, rfl, hst2⟩ := hst
  have ST2 := Lib.hid (show Sta W (fun _ => True) (.pointer none) [] [] [] (prows u1 x1 (prows u0 peNoP [])) w2 from ST1.out.leaveN (inC (at_ 0 rfl) (inC (at_ 1 rfl) inN)) hst2)
  clear hst2 ST1
  go_wp2_with fail
  refine (C2.out x1 _ _ (ST2.out.enterN (prows u1 x1 []) (inC (at_ 0 rfl) (inC (at_ 1 rfl) inN)))).mono ?_
  intro e w3 hst
  obtain ⟨x2, rfl, hst2⟩ := hst
  have ST3 := Lib.hid (show Sta W (fun _ => True) (.pointer none) [] [] [] (prows u2 x2 (prows u1 x1 (prows u0 peNoP []))) w3 from ST2.out.leaveN (inC (at_ 0 rfl) (inC (at_ 1 rfl) inN)) hst2)
  clear hst2 ST2
  clear C1 C2
  go_wp2_with (refine wpList_fresh (vs := u2.arr x2) hp1 hp2 Try.infoPeers (by rfl) (by rw [← Array.all_toList]; rfl) (by rfl) (by rfl) ?_)
  intro w4 f_ b_ l_
  obtain ⟨q1, hb_⟩ : ∃ b, b = w3.heap.size := ⟨_, rfl⟩
  rw [← hb_] at b_ l_ ⊢
  have ST4 := Lib.hid (show Sta W (fun _ => True) (.pointer none) [] [⟨q1, u2.arr x2, 74⟩] [] (prows u2 x2 (prows u1 x1 (prows u0 peNoP []))) w4 from ST3.out.var f_ b_ (Nat.le_of_eq hb_.symm))
  clear ST3 f_ b_ l_ hb_
  go_upto_region 2 with fail
  refine wp_region_lit ?_
  refine wpList_load_mid (by rfl) 74 _ (by rfl) q1 0 (by rfl) (Array.toList (u2.arr x2)) _ (blk_range (ST4.out.blkAt 0 rfl)) Try.underlying74 rfl Try.infoPeers ?_
  go_wp2_with fail
  refine (C3.out x2 _ _ (ST4.out.enterN (prows u2 x2 []) (inC (at_ 0 rfl) (inC (at_ 1 rfl) inN)))).mono ?_
  intro e w5 hst
  obtain ⟨x3, rfl, hst2⟩ := hst
  have ST5 := Lib.hid (show Sta W (fun _ => True) (.pointer none) [] [⟨q1, u2.arr x2, 74⟩] [] (prows u1 x3 (prows u2 x2 (prows u1 x1 (prows u0 peNoP [])))) w5 from ST4.out.leaveN (inC (at_ 0 rfl) (inC (at_ 1 rfl) inN)) hst2)
  clear hst2 ST4
  go_wp2_with (refine wpList_fresh (vs := u1.arr x3) hp1 hp2 Try.infoPeers (by rfl) (by rw [← Array.all_toList]; rfl) (by rfl) (by rfl) ?_)
  intro w6 f_ b_ l_
  obtain ⟨q3, hb_⟩ : ∃ b, b = w5.heap.size := ⟨_, rfl⟩
  rw [← hb_] at b_ l_ ⊢
  have ST6 := Lib.hid (show Sta W (fun _ => True) (.pointer none) [] [⟨q3, u1.arr x3, 74⟩, ⟨q1, u2.arr x2, 74⟩] [] (prows u1 x3 (prows u2 x2 (prows u1 x1 (prows u0 peNoP [])))) w6 from ST5.out.var f_ b_ (Nat.le_of_eq hb_.symm))
  clear ST5 f_ b_ l_ hb_
  go_upto_region 3 with fail
  refine wp_region_lit ?_
  refine wpList_load_mid (by rfl) 74 _ (by rfl) q3 0 (by rfl) (Array.toList (u1.arr x3)) _ (blk_range (ST6.out.blkAt 0 rfl)) Try.underlying74 rfl Try.infoPeers ?_
  go_wp2_with fail
  refine (C4.out x3 _ _ (ST6.out.enterN (prows u1 x3 []) (inC (at_ 0 rfl) (inC (at_ 1 rfl) inN)))).mono ?_
  intro e w7 hst
  obtain ⟨x4, rfl, hst2⟩ := hst
  have ST7 := Lib.hid (show Sta W (fun _ => True) (.pointer none) [] [⟨q3, u1.arr x3, 74⟩, ⟨q1, u2.arr x2, 74⟩] [] (prows u1 x4 (prows u1 x3 (prows u2 x2 (prows u1 x1 (prows u0 peNoP []))))) w7 from ST6.out.leaveN (inC (at_ 0 rfl) (inC (at_ 1 rfl) inN)) hst2)
  clear hst2 ST6
  go_wp2_with (refine wpList_fresh (vs := u1.arr x4) hp1 hp2 Try.infoPeers (by rfl) (by rw [← Array.all_toList]; rfl) (by rfl) (by rfl) ?_)
  intro w8 f_ b_ l_
  obtain ⟨q5, hb_⟩ : ∃ b, b = w7.heap.size := ⟨_, rfl⟩
  rw [← hb_] at b_ l_ ⊢
  have ST8 := Lib.hid (show Sta W (fun _ => True) (.pointer none) [] [⟨q5, u1.arr x4, 74⟩, ⟨q3, u1.arr x3, 74⟩, ⟨q1, u2.arr x2, 74⟩] [] (prows u1 x4 (prows u1 x3 (prows u2 x2 (prows u1 x1 (prows u0 peNoP []))))) w8 from ST7.out.var f_ b_ (Nat.le_of_eq hb_.symm))
  clear ST7 f_ b_ l_ hb_
  clear C3 C4
  go_upto_region 4 with fail
  have a2 : w8.cell? ⟨q1, 2, none⟩ = some (.slice x2.za u2.z.length x2.zc) := ST8.out.cell 2 2 rfl rfl
  have a3 : w8.cell? ⟨q1, 3, none⟩ = some (.int .i64 64) := ST8.out.cell 2 3 rfl rfl
  have a0 : w8.cell? ⟨q1, 0, none⟩ = some (.slice x2.ea u2.e.length x2.ec) := ST8.out.cell 2 0 rfl rfl
  have a1 : w8.cell? ⟨q1, 1, none⟩ = some (.int .i64 64) := ST8.out.cell 2 1 rfl rfl
  have a4 : w8.cell? ⟨q3, 0, none⟩ = some (.slice x3.ea u1.e.length x3.ec) := ST8.out.cell 1 0 rfl rfl
  have a5 : w8.cell? ⟨q3, 1, none⟩ = some (.int .i64 64) := ST8.out.cell 1 1 rfl rfl
  go_wp2_with fail
  refine (CZ.out x2 _ (ST8.out.rowAt 5 rfl)).mono ?_
  rintro e w9 ⟨rfl, f_⟩
  clear a0 a1 a2 a3 a4 a5
  have ST9 := Lib.hid (show Sta W (fun _ => True) (.pointer none) [] [⟨q5, u1.arr x4, 74⟩, ⟨q3, u1.arr x3, 74⟩, ⟨q1, u2.arr x2, 74⟩] [] (prows u1 x4 (prows u1 x3 (prows u2 x2 (prows u1 x1 (prows u0 peNoP []))))) w9 from ST8.out.gr f_)
  clear ST8 f_
  have b2 : w9.cell? ⟨q1, 2, none⟩ = some (.slice x2.za u2.z.length x2.zc) := ST9.out.cell 2 2 rfl rfl
  have b3 : w9.cell? ⟨q1, 3, none⟩ = some (.int .i64 64) := ST9.out.cell 2 3 rfl rfl
  have b0 : w9.cell? ⟨q1, 0, none⟩ = some (.slice x2.ea u2.e.length x2.ec) := ST9.out.cell 2 0 rfl rfl
  have b1 : w9.cell? ⟨q1, 1, none⟩ = some (.int .i64 64) := ST9.out.cell 2 1 rfl rfl
  have b4 : w9.cell? ⟨q3, 0, none⟩ = some (.slice x3.ea u1.e.length x3.ec) := ST9.out.cell 1 0 rfl rfl
  have b5 : w9.cell? ⟨q3, 1, none⟩ = some (.int .i64 64) := ST9.out.cell 1 1 rfl rfl
  go_wp2_with fail
  refine (CE.out x2 _ (ST9.out.rowAt 4 rfl)).mono ?_
  rintro e w10 ⟨rfl, f_⟩
  clear b0 b1 b2 b3 b4 b5
  have ST10 := Lib.hid (show Sta W (fun _ => True) (.pointer none) [] [⟨q5, u1.arr x4, 74⟩, ⟨q3, u1.arr x3, 74⟩, ⟨q1, u2.arr x2, 74⟩] [] (prows u1 x4 (prows u1 x3 (prows u2 x2 (prows u1 x1 (prows u0 peNoP []))))) w10 from ST9.out.gr f_)
  clear ST9 f_
  have c2 : w10.cell? ⟨q1, 2, none⟩ = some (.slice x2.za u2.z.length x2.zc) := ST10.out.cell 2 2 rfl rfl
  have c3 : w10.cell? ⟨q1, 3, none⟩ = some (.int .i64 64) := ST10.out.cell 2 3 rfl rfl
  have c0 : w10.cell? ⟨q1, 0, none⟩ = some (.slice x2.ea u2.e.length x2.ec) := ST10.out.cell 2 0 rfl rfl
  have c1 : w10.cell? ⟨q1, 1, none⟩ = some (.int .i64 64) := ST10.out.cell 2 1 rfl rfl
  have c4 : w10.cell? ⟨q3, 0, none⟩ = some (.slice x3.ea u1.e.length x3.ec) := ST10.out.cell 1 0 rfl rfl
  have c5 : w10.cell? ⟨q3, 1, none⟩ = some (.int .i64 64) := ST10.out.cell 1 1 rfl rfl
  go_wp2_with fail
  refine (CF.out x3 _ (ST10.out.rowAt 2 rfl)).mono ?_
  rintro e w11 ⟨rfl, f_⟩
  clear c0 c1 c2 c3 c4 c5
  have ST11 := Lib.hid (show Sta W (fun _ => True) (.pointer none) [] [⟨q5, u1.arr x4, 74⟩, ⟨q3, u1.arr x3, 74⟩, ⟨q1, u2.arr x2, 74⟩] [] (prows u1 x4 (prows u1 x3 (prows u2 x2 (prows u1 x1 (prows u0 peNoP []))))) w11 from ST10.out.gr f_)
  clear ST10 f_
  clear CZ CE CF
  have d0 : w11.cell? ⟨q3, 0, none⟩ = some (.slice x3.ea u1.e.length x3.ec) := ST11.out.cell 1 0 rfl rfl
  have d1 : w11.cell? ⟨q3, 1, none⟩ = some (.int .i64 64) := ST11.out.cell 1 1 rfl rfl
  have d2 : w11.cell? ⟨q3, 2, none⟩ = some (.slice x3.za u1.z.length x3.zc) := ST11.out.cell 1 2 rfl rfl
  have d3 : w11.cell? ⟨q3, 3, none⟩ = some (.int .i64 64) := ST11.out.cell 1 3 rfl rfl
  go_wp2_with fail
  refine (CA.out x3 _ _ (ST11.out.enterN (prows u1 x3 []) (inC (at_ 2 rfl) (inC (at_ 3 rfl) inN)))).mono ?_
  rintro e w12 ⟨v, rfl, ho_, hb_⟩
  clear d0 d1 d2 d3 CA
  rw [HALL.out] at ho_
  have ST12 := Lib.hid (show Sta W (fun _ => True) (.pointer none) [] [⟨q5, u1.arr x4, 74⟩, ⟨q3, u1.arr x3, 74⟩, ⟨q1, u2.arr x2, 74⟩] [⟨3, 1, v, ([2] : List Int).length, ints [2]⟩] (prows u1 x4 (prows u1 x3 (prows u2 x2 (prows u1 x1 (prows u0 peNoP []))))) w12 from ST11.out.ownIn (Gr.of_below hb_) ho_)
  clear ho_ hb_ ST11
  obtain ⟨va, vc, rfl, hst⟩ := ST12.out.asRow 0 rfl
  have ST13 := Lib.hid (show Sta W (fun _ => True) (.pointer none) [] [⟨q5, u1.arr x4, 74⟩, ⟨q3, u1.arr x3, 74⟩, ⟨q1, u2.arr x2, 74⟩] [] (⟨va, ([2] : List Int).length, vc, ints [2]⟩ :: prows u1 x4 (prows u1 x3 (prows u2 x2 (prows u1 x1 (prows u0 peNoP []))))) w12 from hst)
  clear hst ST12
  go_wp2_with fail
  obtain ⟨w13, hw_⟩ : ∃ x, x = w12.alloc (.cells #[.int .i64 2] 3) := ⟨_, rfl⟩
  obtain ⟨g, hg_⟩ : ∃ b, b = w12.heap.size := ⟨_, rfl⟩
  rw [← hw_, ← hg_]
  have ST14 := Lib.hid (show Sta W (fun _ => True) (.pointer none) [] [⟨q5, u1.arr x4, 74⟩, ⟨q3, u1.arr x3, 74⟩, ⟨q1, u2.arr x2, 74⟩] [] (⟨va, ([2] : List Int).length, vc, ints [2]⟩ :: prows u1 x4 (prows u1 x3 (prows u2 x2 (prows u1 x1 (prows u0 peNoP []))))) w13 from hw_ ▸ ST13.out.gr ((Fr.refl _ _).alloc _))
  clear ST13
  have hsl : SlA w13 (some ⟨g, 0, none⟩) ([2] : List Int).length 1 (ints [2]) := sla_blk (c := #[.int .i64 2]) (e := 3) (fr := (0, 0)) (by rw [hw_, heap_alloc_if, if_pos hg_]) (fun j x hj => by cases j with | zero => simpa using hj | succ j => simp at hj) (by decide) (by decide)
  clear hw_ hg_
  refine (refSame_any va vc [2] (some ⟨g, 0, none⟩) 1 [2] _ (ST14.out.rowAt 0 rfl) hsl).mono ?_
  rintro e w14 ⟨rfl, q, rfl⟩
  rw [(same_iff [2] [2]).2 rfl]
  go_wp2_with fail
  go_ret
  exact ⟨rfl, ST14.out.grW.drewN q⟩
end Go.Proofs.Ytelepohdfcjnfaa
