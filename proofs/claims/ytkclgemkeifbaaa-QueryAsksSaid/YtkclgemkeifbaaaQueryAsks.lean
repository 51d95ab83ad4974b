/-
  The walk of QueryAsks.
-/
import Derived.Test.YtkclgemkeifbaaaQSpeak
import Derived.Test.YtkclgemkeifbaaaHeadR
import Derived.Deep.CutBlock
import Derived.Deep.CutRange
namespace Go.Proofs.Ytkclgemkeifbaaa
open Go.RowKit Go.Proofs

theorem cut_minA (K : Nat) (c : Int) (hc : c = K) (s : List UInt8) : ∃ m : Nat, m ≤ s.length ∧ m ≤ K ∧ (if c < (s.length : Int) then c else (s.length : Int)) = (m : Int) ∧ min (s.length : Int) c = (m : Int) ∧ s.take m = s.take K :=
  ⟨min s.length K, by omega, by omega, by subst hc; split <;> omega, by omega, by rw [List.take_eq_take_iff]; omega⟩
/-- labels, at most so many, each cut -/
def cutL (K : Nat) (l : List Lbl) : List Lbl := (l.take K).map (List.take 64)
theorem cutL_snoc (k : Nat) (l : List Lbl) (h : k < l.length) : cutL (k + 1) l = cutL k l ++ [l[k].take 64] := by
  unfold cutL
  rw [List.take_succ_eq_append_getElem h, List.map_append]; rfl
theorem cutL_len (k : Nat) (l : List Lbl) (h : k ≤ l.length) : (cutL k l).length = k := by unfold cutL; simp; omega
theorem cutL_all {K k : Nat} {l : List Lbl} (h : ¬ (k < l.length ∧ k < K)) (hk : k ≤ K) (hl : k ≤ l.length) : cutL k l = cutL K l := by
  unfold cutL
  congr 1
  rw [List.take_eq_take_iff]; omega
theorem app_lst (a b : List UInt8) : (⟨a.toArray⟩ : ByteArray) ++ ⟨b.toArray⟩ = ⟨(a ++ b).toArray⟩ := by apply ByteArray.ext; simp

set_option maxHeartbeats 4000000 in
set_option maxRecDepth 100000 in
theorem queryAsks_walk (id : Int) (a : Option Addr) (cap : Nat) (l : List Lbl) (typ : Int) (W : World) (h : SlA W a l.length cap (strVs l)) (hid : 0 ≤ id ∧ id ≤ 65535) (ht : 0 ≤ typ ∧ typ ≤ 65535) :
    Calls Try.prog 8 #[.int .u16 id, .slice a l.length cap, .int .u16 typ] W fun e w' => e = .returned (.bool true) ∧ Gr W w' := by
  obtain ⟨i0, hi1, hi2, hi3, hi4⟩ := info_parts Try.info21
  obtain ⟨n, hn⟩ : ∃ n, n = min l.length 130 := ⟨_, rfl⟩
  have HN := Lib.hid hn
  have q1 : n ≤ l.length := by omega
  have q2 : n ≤ 130 := by omega
  clear hn
  have hle := h.le
  have hmx := h.max
  have H := Lib.hid h
  have S0 := Lib.hid (fun w => speaks23_any w)
  clear h
  obtain ⟨hid0, hid1⟩ := hid
  obtain ⟨ht0, ht1⟩ := ht
  go_enter Try.func8, Try.ntmps8
  go_wp2_with fail
  refine (S0.out _).mono ?_
  rintro e w1 ⟨rfl, f1⟩
  have F1 := Lib.hid f1
  clear f1 S0
  go_wp2_with fail
  go_loopw [7, 8] (fun v iv wr => ∃ k : Nat, iv = .int .i64 k ∧ k ≤ n ∧ wr.ownsRow W.heap.size 9 1 v (cutL k l).length (strVs (cutL k l)) ∧ Gr W wr) (fun _ iv _ => n - (intOf iv).toNat)
  case atStart => exact ⟨0, rfl, Nat.zero_le _, World.ownsRow_nil _ _ _ _, F1.out⟩
  case round =>
    clear F1
    obtain ⟨k, rfl, hk, ho, fr⟩ := hrel
    go_upto_region 5 with fail
    go_cut [25] from 18 to 25 (fun c wx => c = .bool (decide (k < n)) ∧ wr = wx)
    case first =>
      by_cases h1 : (k : Int) < (l.length : Int)
      · by_cases h2 : (k : Int) < 130
        · have hd := Lib.hid (show decide (k < n) = true by have := HN.out; simp; omega)
          clear ho fr
          go_wp2_with fail
          go_meet
          exact ⟨by rw [hd.out], rfl⟩
        · have hd := Lib.hid (show decide (k < n) = false by have := HN.out; simp; omega)
          clear ho fr
          go_wp2_with fail
          go_meet
          exact ⟨by rw [hd.out], rfl⟩
      · have hd := Lib.hid (show decide (k < n) = false by have := HN.out; simp; omega)
        clear ho fr
        go_wp2_with fail
        go_meet
        exact ⟨by rw [hd.out], rfl⟩
    case rest =>
     obtain ⟨rfl, rfl⟩ := hcut
     have HO := Lib.hid ho
     have FR := Lib.hid fr
     have hsz := fr.size
     have hcl := cutL_len k l (by omega)
     by_cases hlt : k < n
     · rw [decide_eq_true hlt]
       have h1 : k < l.length := by omega
       have h2 : k < 130 := by omega
       obtain ⟨b, o, rfl, hc0⟩ := H.out.at1 k h1
       have hbW := lt_of_cell hc0
       simp only at hbW
       have hc := fr.cell hc0 (fun h => h)
       have HS := Lib.hid (cutL_snoc k l h1)
       generalize l[k] = x at *
       obtain ⟨mm, hm1, hm2, hite, hmin, hm3⟩ := cut_minA 64 64 rfl x
       have zx := mk_size x
       have hx : (⟨x.toArray⟩ : ByteArray).extract 0 mm = ⟨(x.take 64).toArray⟩ := by rw [mk_extract, List.drop_zero, hm3]
       obtain ⟨y, hy⟩ : ∃ y, y = x.take 64 := ⟨_, rfl⟩
       rw [← hy] at hx HS
       obtain ⟨cl, hcl'⟩ : ∃ cl, cl = cutL k l := ⟨_, rfl⟩
       rw [← hcl'] at HO hcl HS
       have hcl3 : cl.length ≤ 130 := by omega
       clear ho fr hm3 hy hcl' hcl
       haveI : Nonempty (WC (Fr (fun q => u7.ownBlock = some q) wr)) := ⟨⟨wr, Fr.refl _ _⟩⟩
       have y0 : ∀ z : WC (Fr (fun q => u7.ownBlock = some q) wr), z.val.cell? ⟨b, o + k, none⟩ = some (strV x) := fun z => z.ok.cell hc (fun h => by have := (HO.out.lt _ h).1; simp only at this; omega)
       have d0 : (0 : Int) ≤ (mm : Int) := by omega
       have d1 : (mm : Int) ≤ (x.length : Int) := by omega
       go_wp2_with fail
       refine wp_region_plan [12, 13] (Plan.seq (List.range 15) .done) (fun w' => ∃ z : WC (Fr (fun q => u7.ownBlock = some q) wr), w' = z.val) (by kernel_rfl) (by kernel_rfl) (fun c a w d v h => by cases d <;> exact h) (fun c a w d v h => by cases d <;> exact h) ⟨⟨wr.drew, (Fr.refl _ _).drew⟩, rfl⟩ ?_
       simp only [Plan.seq, List.range, List.range.loop, List.foldr]
       repeat (refine wpV_q (by simp only [List.getElem?_toArray, List.getElem?_cons_succ, List.getElem?_cons_zero] <;> rfl) (by rfl) (by rfl) ?_; go_big_quiet_step (fail); refine wpQuiet_nil ?_)
       refine wpV_e (by simp only [List.getElem?_toArray, List.getElem?_cons_succ, List.getElem?_cons_zero] <;> rfl) (by rfl) ?_
       go_wp2_with fail
       have f2 : Fr (fun q => u7.ownBlock = some q) wr ((wr.alloc (.cells #[strV y] 9)).drew) := ((Fr.refl _ _).alloc _).drew
       have O2 := Lib.hid ((HO.out.alloc (.cells #[strV y] 9)).drew)
       have N2 : Hid (SlA ((wr.alloc (.cells #[strV y] 9)).drew) (some ⟨wr.heap.size, 0, none⟩) [y].length 1 (strVs [y])) := Lib.hid (sla_one _ _ (by show (wr.alloc _).cell? _ = _; rw [World.cell?_alloc_at _ _ _ _ rfl]; rfl))
       have F2 : Hid (Gr W ((wr.alloc (.cells #[strV y] 9)).drew)) := Lib.hid (Gr.trans FR.out ((Fr.refl _ _).alloc _).drew)
       refine ⟨⟨⟨_, f2⟩, rfl⟩, ?_⟩
       clear f2
       refine wpV_e (by simp only [List.getElem?_toArray, List.getElem?_cons_succ, List.getElem?_cons_zero] <;> rfl) (by rfl) ?_
       go_wp2_with (at_builtin; refine wpList_strs_app rfl _ _ rfl O2.out N2.out rfl rfl rfl (by simp; omega) (by simp; omega) ?_)
       intro v3 w3 ho3 hg3
       have f3 : Gr W w3 := Fr.trans F2.out ((Fr.refl (fun k => Value.ownBlock _ = some k) _).grown hg3 (fun q hq => .inl hq)) (fun k hk => .inr (O2.out.lt k hk).1)
       have f3' : Fr (fun q => u7.ownBlock = some q) wr w3 := Fr.trans (((Fr.refl (fun q => u7.ownBlock = some q) wr).alloc (.cells #[strV y] 9)).drew) ((Fr.refl (fun k => Value.ownBlock _ = some k) _).grown hg3 (fun q hq => .inl hq)) (fun k hk => .inl hk)
       have F3 := Lib.hid f3
       have O3 := Lib.hid ho3
       clear f3 hg3 ho3 O2 N2 F2 HO FR
       go_wp2_with fail
       refine ⟨⟨⟨w3, f3'⟩, rfl⟩, ?_⟩
       repeat (refine wpV_q (by simp only [List.getElem?_toArray, List.getElem?_cons_succ, List.getElem?_cons_zero] <;> rfl) (by rfl) (by rfl) ?_; go_big_quiet_step (fail); refine wpQuiet_nil ?_)
       refine wpV_done ?_
       clear y0 f3'
       go_wp2_with fail
       go_roundw
       case rel => exact ⟨k + 1, by go_num, by omega, by rw [HS.out]; simpa using O3.out, F3.out⟩
       case measure => simp [intOf]; omega
     · rw [decide_eq_false hlt]
       have HCL := Lib.hid (cutL_all (K := 130) (k := k) (l := l) (by have := HN.out; omega) (by omega) (by omega))
       rw [HCL.out] at HO hcl
       have hnl : (cutL 130 l).length ≤ 130 := by omega
       generalize cutL 130 l = nm at *
       obtain ⟨av, cv, rfl, sv, -⟩ := SlA.of_own HO.out
       have SV := Lib.hid sv
       clear ho fr sv HO HCL hcl hlt
       go_upto_region 8 with fail
       have C1 := Lib.hid (qAsk_any id av cv nm typ wr SV.out ⟨hid0, hid1⟩ ⟨ht0, ht1⟩)
       have CM := Lib.hid (fun w (f : Gr wr w) => refMay21_any av cv nm w (SV.out.keep f (fun _ _ h => h)))
       unfold AskOut at C1
       cases hmay : mayL nm
       · rw [hmay] at C1 CM
         simp only [Bool.false_eq_true, if_false] at C1
         clear hmay
         go_wp2_with fail
         refine C1.out.mono ?_
         rintro e w2 ⟨rfl, f2⟩
         have F2 := Lib.hid (Gr.trans FR.out f2)
         have CM2 := Lib.hid (CM.out w2 f2)
         clear f2 C1 CM
         go_wp2_with fail
         refine CM2.out.mono ?_
         rintro e w3 ⟨rfl, rfl⟩
         go_wp2_with fail
         go_ret
         exact ⟨rfl, F2.out⟩
       rw [hmay] at C1 CM
       simp only [if_true] at C1
       have hsz2 := ((mayL_iff nm).1 hmay).2
       have hbl : (bytesL nm).length ≤ 254 := by rw [lbSize_bytes]; exact hsz2
       have hal := askB_len id nm typ hmay
       have CB := Lib.hid (fun w (f : Gr wr w) => refBytes21_any av cv nm w (SV.out.keep f (fun _ _ h => h)) hmay)
       have T1 := Lib.hid (fun w => refTwo_any id w hid0 (by omega))
       have T2 := Lib.hid (fun w => refTwo_any typ w ht0 (by omega))
       have CP := Lib.hid (fun w => qParse_any (askB id nm typ) w (by omega))
       generalize hcd : (if (typ = 1 ∨ typ = 33) then (0 : Int) else 4) = code
       have HCD := Lib.hid hcd
       clear hcd
       have hq : qOut (askB id nm typ) = (hdMore id 0, some (nm, typ, 1), code, 0) := by
         rw [askB_eq, qOut_ask hmay ⟨hid0, hid1⟩ (by decide) ⟨ht0, ht1⟩ (by decide), if_neg (by simp), ← HCD.out]
         simp
       rw [hq] at CP
       clear hq
       obtain ⟨p1, hp1⟩ : ∃ p, p = two id := ⟨_, rfl⟩
       obtain ⟨p2, hp2⟩ : ∃ p, p = p1 ++ [1, 0, 0, 1, 0, 0, 0, 0, 0, 0] := ⟨_, rfl⟩
       obtain ⟨p3, hp3⟩ : ∃ p, p = bytesL nm := ⟨_, rfl⟩
       obtain ⟨p4, hp4⟩ : ∃ p, p = p2 ++ p3 := ⟨_, rfl⟩
       obtain ⟨p5, hp5⟩ : ∃ p, p = p4 ++ [0] := ⟨_, rfl⟩
       obtain ⟨p6, hp6⟩ : ∃ p, p = two typ := ⟨_, rfl⟩
       obtain ⟨p7, hp7⟩ : ∃ p, p = p5 ++ p6 := ⟨_, rfl⟩
       obtain ⟨p8, hp8⟩ : ∃ p, p = askB id nm typ := ⟨_, rfl⟩
       have e1 : (⟨p1.toArray⟩ : ByteArray) ++ ⟨#[1, 0, 0, 1, 0, 0, 0, 0, 0, 0]⟩ = ⟨p2.toArray⟩ := by rw [hp2]; exact app_lst _ _
       have e2 : (⟨p2.toArray⟩ : ByteArray) ++ ⟨p3.toArray⟩ = ⟨p4.toArray⟩ := by rw [hp4]; exact app_lst _ _
       have e3 : (⟨p4.toArray⟩ : ByteArray) ++ ⟨#[0]⟩ = ⟨p5.toArray⟩ := by rw [hp5]; exact app_lst _ _
       have e4 : (⟨p5.toArray⟩ : ByteArray) ++ ⟨p6.toArray⟩ = ⟨p7.toArray⟩ := by rw [hp7]; exact app_lst _ _
       have e5 : (⟨p7.toArray⟩ : ByteArray) ++ ⟨#[0, 1]⟩ = ⟨p8.toArray⟩ := by
         rw [hp8, hp7, hp5, hp4, hp2, hp1, hp3, hp6]
         rw [show (⟨#[0, 1]⟩ : ByteArray) = ⟨[0, 1].toArray⟩ from rfl, app_lst]
         congr 2
         simp [askB, hdAskB, two, numB, bigEnd]
       rw [← hp8] at C1 CP hal
       rw [← hp3] at CB hbl
       rw [← hp1] at T1
       rw [← hp6] at T2
       have l1 : p1.length = 2 := by rw [hp1]; exact two_length _
       have l6 : p6.length = 2 := by rw [hp6]; exact two_length _
       have m1 : p1.length ≤ 1000 := by omega
       have m2 : p2.length ≤ 1000 := by rw [hp2]; simp; omega
       have m4 : p4.length ≤ 1000 := by rw [hp4, hp2]; simp; omega
       have m5 : p5.length ≤ 1000 := by rw [hp5, hp4, hp2]; simp; omega
       have m6 : p6.length ≤ 1000 := by omega
       have m7 : p7.length ≤ 1000 := by rw [hp7, hp5, hp4, hp2]; simp; omega
       have z1 := mk_size p1
       have z2 := mk_size p2
       have z3 := mk_size p3
       have z4 := mk_size p4
       have z5 := mk_size p5
       have z6 := mk_size p6
       have z7 := mk_size p7
       have z8 := mk_size p8
       clear hp1 hp2 hp3 hp4 hp5 hp6 hp7 hp8 l1 l6 hmay hsz2
       go_wp2_with fail
       refine C1.out.mono ?_
       rintro e w2 ⟨rfl, f2⟩
       have F2 := Lib.hid (Gr.trans FR.out f2)
       have G2 := Lib.hid f2
       have CM2 := Lib.hid (CM.out w2 f2)
       clear f2 C1 CM
       go_wp2_with fail
       refine CM2.out.mono ?_
       rintro e w3 ⟨rfl, rfl⟩
       clear CM2
       go_wp2_with fail
       refine (T1.out _).mono ?_
       rintro e w3 ⟨rfl, f3⟩
       have F3 := Lib.hid (Gr.trans F2.out f3)
       have G3 := Lib.hid (Gr.trans G2.out f3)
       have CB3 := Lib.hid (CB.out w3 G3.out)
       clear f3 T1 F2 G2 CB
       go_wp2_with fail
       refine CB3.out.mono ?_
       rintro e w4 ⟨rfl, f4⟩
       have F4 := Lib.hid (Gr.trans F3.out f4)
       have G4 := Lib.hid (Gr.trans G3.out f4)
       clear f4 F3 G3 CB3
       go_wp2_with fail
       refine (T2.out _).mono ?_
       rintro e w5 ⟨rfl, f5⟩
       have F5 := Lib.hid (Gr.trans F4.out f5)
       have G5 := Lib.hid (Gr.trans G4.out f5)
       clear f5 F4 G4 T2
       go_wp2_with fail
       refine (CP.out _).mono ?_
       rintro e w6 ⟨f6, v, o6, a2, cap2, rfl, rfl⟩
       have F6 := Lib.hid (Gr.trans F5.out f6)
       have G6 := Lib.hid (Gr.trans G5.out f6)
       obtain ⟨a', cap', ev, s6, -⟩ := SlA.of_own o6
       cases ev
       simp only [qCells, hdMore, hdZero]
       obtain ⟨w7, hw7⟩ : ∃ w7, w7 = w6.alloc (.cells #[.int .u16 id, .bool false, .int .u8 0, .bool false, .bool false, .bool true, .bool false, .int .u8 0, .int .u8 0, .int .u16 1, .int .u16 0, .int .u16 0, .int .u16 0, .bool true, .slice a2 nm.length cap2, .int .u16 typ, .int .u16 1] 67) := ⟨_, rfl⟩
       have f7 : Gr w6 w7 := by rw [hw7]; exact (Fr.refl _ _).alloc _
       have F7 := Lib.hid (Gr.trans F6.out f7)
       have B7 := Lib.hid (show w7.heap[w6.heap.size]? = some (.cells #[.int .u16 id, .bool false, .int .u8 0, .bool false, .bool false, .bool true, .bool false, .int .u8 0, .int .u8 0, .int .u16 1, .int .u16 0, .int .u16 0, .int .u16 0, .bool true, .slice a2 nm.length cap2, .int .u16 typ, .int .u16 1] 67 (0, 0)) by rw [hw7, heap_alloc_if, if_pos rfl])
       have CS := Lib.hid (refSame21_any a2 cap2 nm av cv nm w7 (s6.keep f7 (fun _ _ h => h)) (SV.out.keep (Gr.trans G6.out f7) (fun _ _ h => h)))
       rw [show decide (nm = nm) = true from decide_eq_true rfl] at CS
       have HW7 := Lib.hid hw7
       clear f6 f7 hw7 o6 s6 F5 F6 G5 G6 CP
       go_upto_region 13 with fail
       rw [← HW7.out]
       clear HW7
       clear e1 e2 e3 e4 e5 z1 z2 z3 z4 z5 z6 z7
       by_cases t1 : typ = 1
       · have e1 : (typ == 1) = true := by simpa using t1
         obtain rfl : code = 0 := by rw [← HCD.out]; exact if_pos (.inl t1)
         clear t1
         have q0 : w7.cell? ⟨w6.heap.size, 0, none⟩ = some (.int .u16 id) := by rw [Lib.cell_of_heap B7.out]; rfl
         have q5 : w7.cell? ⟨w6.heap.size, 5, none⟩ = some (.bool true) := by rw [Lib.cell_of_heap B7.out]; rfl
         have q13 : w7.cell? ⟨w6.heap.size, 13, none⟩ = some (.bool true) := by rw [Lib.cell_of_heap B7.out]; rfl
         have q14 : w7.cell? ⟨w6.heap.size, 14, none⟩ = some (.slice a2 nm.length cap2) := by rw [Lib.cell_of_heap B7.out]; rfl
         have q15 : w7.cell? ⟨w6.heap.size, 15, none⟩ = some (.int .u16 typ) := by rw [Lib.cell_of_heap B7.out]; rfl
         go_wp2_with fail
         refine CS.out.mono ?_
         rintro e w8 ⟨rfl, f8⟩
         have F8 := Lib.hid (Gr.trans F7.out f8)
         clear f8
         go_wp2_with fail
         go_ret
         exact ⟨rfl, F8.out⟩
       · have e1 : (typ == 1) = false := by simpa using t1
         by_cases t33 : typ = 33
         · have e3 : (typ == 33) = true := by simpa using t33
           obtain rfl : code = 0 := by rw [← HCD.out]; exact if_pos (.inr t33)
           clear t1 t33
           have q0 : w7.cell? ⟨w6.heap.size, 0, none⟩ = some (.int .u16 id) := by rw [Lib.cell_of_heap B7.out]; rfl
           have q5 : w7.cell? ⟨w6.heap.size, 5, none⟩ = some (.bool true) := by rw [Lib.cell_of_heap B7.out]; rfl
           have q13 : w7.cell? ⟨w6.heap.size, 13, none⟩ = some (.bool true) := by rw [Lib.cell_of_heap B7.out]; rfl
           have q14 : w7.cell? ⟨w6.heap.size, 14, none⟩ = some (.slice a2 nm.length cap2) := by rw [Lib.cell_of_heap B7.out]; rfl
           have q15 : w7.cell? ⟨w6.heap.size, 15, none⟩ = some (.int .u16 typ) := by rw [Lib.cell_of_heap B7.out]; rfl
           go_wp2_with fail
           refine CS.out.mono ?_
           rintro e w8 ⟨rfl, f8⟩
           have F8 := Lib.hid (Gr.trans F7.out f8)
           clear f8
           go_wp2_with fail
           go_ret
           exact ⟨rfl, F8.out⟩
         · have e3 : (typ == 33) = false := by simpa using t33
           obtain rfl : code = 4 := by rw [← HCD.out]; exact if_neg (fun h => by rcases h with h | h; exact t1 h; exact t33 h)
           clear t1 t33
           have q0 : w7.cell? ⟨w6.heap.size, 0, none⟩ = some (.int .u16 id) := by rw [Lib.cell_of_heap B7.out]; rfl
           have q5 : w7.cell? ⟨w6.heap.size, 5, none⟩ = some (.bool true) := by rw [Lib.cell_of_heap B7.out]; rfl
           have q13 : w7.cell? ⟨w6.heap.size, 13, none⟩ = some (.bool true) := by rw [Lib.cell_of_heap B7.out]; rfl
           have q14 : w7.cell? ⟨w6.heap.size, 14, none⟩ = some (.slice a2 nm.length cap2) := by rw [Lib.cell_of_heap B7.out]; rfl
           have q15 : w7.cell? ⟨w6.heap.size, 15, none⟩ = some (.int .u16 typ) := by rw [Lib.cell_of_heap B7.out]; rfl
           go_wp2_with fail
           refine CS.out.mono ?_
           rintro e w8 ⟨rfl, f8⟩
           have F8 := Lib.hid (Gr.trans F7.out f8)
           clear f8
           go_wp2_with fail
           go_ret
           exact ⟨rfl, F8.out⟩
end Go.Proofs.Ytkclgemkeifbaaa
