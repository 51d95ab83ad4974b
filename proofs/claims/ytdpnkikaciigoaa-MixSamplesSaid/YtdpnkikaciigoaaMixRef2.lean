/-
  The document's samples and answers (printed by gen_mixref2.py).
-/
import Derived.Test.YtdpnkikaciigoaaMixRef
namespace Go.Proofs.Ytdpnkikaciigoaa
open Go.RowKit Go.Proofs

/-- what is left of a call that gives a row of its own and the view with the numbers that are left -/
def SmpOut (u : Vw) (z : VwP) (da : Option Addr) (l ds' : List Int) (W : World) (e : Ending) (w' : World) : Prop :=
  ∃ a c da' dc', e = .returned (.tuple #[.slice a l.length c, .agg (rwArr u z ds' da' dc')]) ∧ SlA w' a l.length c (ints l) ∧ (∀ q, a = some q → W.heap.size ≤ q.block) ∧ RwAt w' u z ds' da' dc' ∧ DaOf da da' ∧ Gr W w'
theorem RwAt.keepLt {B : Nat} {w w' : World} {u : Vw} {z : VwP} {ds : List Int} {da : Option Addr} {dc : Nat} (h : RwAt w u z ds da dc) (f : Fr (fun k => B ≤ k) w w') (la : u.act ≠ [] → ∀ q, z.aa = some q → q.block < B) (lp : u.pas ≠ [] → ∀ q, z.pa = some q → q.block < B) (ld : ds ≠ [] → ∀ q, da = some q → q.block < B) : RwAt w' u z ds da dc := by
  refine ⟨h.act.keepNE f (fun hl q hq hk => by have := la hl q hq; omega), h.pas.keepNE f (fun hl q hq hk => by have := lp hl q hq; omega), ?_⟩
  by_cases hd : ds = []
  · subst hd; exact ⟨h.dr.le, h.dr.max, fun j x hj => by simp at hj⟩
  · exact h.dr.keep f (fun q hq hk => by have := ld hd q hq; omega)
theorem SlA.ltU {w : World} {a : Option Addr} {n cap : Nat} {l : List Int} {k : IntKind} (h : SlA w a n cap (l.map (Value.int k))) (hl : l ≠ []) : ∀ q, a = some q → q.block < w.heap.size := by
  intro q hq
  obtain ⟨b, o, e, hlt⟩ := h.lt (by simpa using hl)
  rw [e] at hq
  cases hq
  exact hlt
theorem someS_range {α : Type} {f : Nat} {ds : List Int} {l : List α} {n : Int} (hr : ∀ x ∈ ds, 0 ≤ x ∧ x < 4294967296) : (∀ x ∈ (someS f ds l n).2, 0 ≤ x ∧ x < 4294967296) ∧ (someS f ds l n).2.length ≤ ds.length := by
  obtain ⟨k, _, hk⟩ := someS_left f ds l n hr
  rw [hk]
  exact ⟨fun x hx => hr x (List.mem_of_mem_drop hx), by simp⟩

set_option maxHeartbeats 4000000 in
set_option maxRecDepth 100000 in
theorem refMixAnswer_any (n : Int) (hn : -9223372036854775808 ≤ n ∧ n ≤ 9223372036854775807) (u : Vw) (z : VwP) (ds : List Int) (da : Option Addr) (dc : Nat) (W : World) (h : RwAt W u z ds da dc) (hr : ∀ x ∈ ds, 0 ≤ x ∧ x < 4294967296) (hds : ds.length ≤ 1000) (v : Vw) (hk : Like v u) (hg : v.Good) :
    Calls Try.prog 62 #[.agg (rwArr u z ds da dc), .int .i64 n] W (SmpOut u z da (someS v.pas.length ds v.pas n).1 (someS v.pas.length ds v.pas n).2 W) := by
  obtain ⟨i0, hi, hz0, hz1, hz2⟩ := info_parts Try.infoint
  obtain ⟨w1, hw1⟩ : ∃ w1, w1 = (W.alloc (.cells (rwArr u z ds da dc) 51)).alloc (.cells rwZ 51) := ⟨_, rfl⟩
  have f1 : Gr W w1 := by rw [hw1]; exact ((Fr.refl _ _).alloc _).alloc _
  have V1 := Lib.hid (show w1.heap[W.heap.size]? = some (.cells (rwArr u z ds da dc) 51 (0, 0)) by rw [hw1, heap_alloc_if, if_neg (by simp), heap_alloc_if, if_pos rfl])
  have R1 := Lib.hid (show w1.heap[W.heap.size + 1]? = some (.cells rwZ 51 (0, 0)) by rw [hw1, heap_alloc_if, if_pos (by simp)])
  have s1 : W.heap.size + 1 < w1.heap.size := by rw [hw1]; simp
  have F1 := Lib.hid f1
  have HW1 := Lib.hid hw1
  have H1 := Lib.hid (h.gr f1)
  have e1 := h.act.le
  have e2 := h.act.max
  have e3 := h.pas.le
  have e4 := h.pas.max
  have e5 := h.dr.le
  have e6 := h.dr.max
  obtain ⟨S, hS⟩ : ∃ S : Nat → Prop, S = fun k => k = W.heap.size ∨ k = W.heap.size + 1 := ⟨_, rfl⟩
  have AP := Lib.hid (show VwApart S u z from h.new (fun k hk => by rw [hS] at hk; omega))
  have HS := Lib.hid (show S W.heap.size ∧ S (W.heap.size + 1) ∧ ∀ k, S k → k < w1.heap.size by rw [hS]; exact ⟨.inl rfl, .inr rfl, fun k hk => by omega⟩)
  have LA := Lib.hid (show (u.act ≠ [] → ∀ q, z.aa = some q → q.block < W.heap.size) ∧ (u.pas ≠ [] → ∀ q, z.pa = some q → q.block < W.heap.size) ∧ (ds ≠ [] → ∀ q, da = some q → q.block < W.heap.size) from ⟨h.act.ltNE, h.pas.ltNE, h.dr.ltU⟩)
  have HR := Lib.hid hr
  have HG := Lib.hid hg
  have hq1 := hk.act.length_eq
  have hq2 := hk.pas.length_eq
  have hq3 := hg.act.len
  have hq4 := hg.pas.len
  have hq5 : u.act.length ≤ 64 := by omega
  have hq6 : u.pas.length ≤ 64 := by omega
  clear hw1 f1 h hS
  have CS := Lib.hid (fun w (f : Gr w1 w) => refMixSome_any ds da dc z.pa z.pc u.pas v.pas n w (H1.out.gr f).dr (H1.out.gr f).pas hk.pas hg.pas.le hq6 hr hds hn)
  unfold SomeOut at CS
  generalize (someS v.pas.length ds v.pas n).1 = T at CS ⊢
  generalize (someS v.pas.length ds v.pas n).2 = d9 at CS ⊢
  clear hk hg hr hq1 hq2 hq3 hq4
  go_enter Try.func62, Try.ntmps62
  go_upto_region 1 with fail
  rw [← HW1.out]
  clear HW1
  have y0 := (Bx.of_block V1.out) 0 _ rfl
  have y1 := (Bx.of_block V1.out) 1 _ rfl
  have y2 := (Bx.of_block V1.out) 2 _ rfl
  have y5 := (Bx.of_block V1.out) 5 _ rfl
  go_wp2_with fail
  refine (CS.out _ (Fr.refl _ _)).mono ?_
  rintro e w2 ⟨aT, cT, d9a, d9c, rfl, hT, hTn, hd9, hda, f2⟩
  have V9 := Lib.hid (blk_keep f2 V1.out (fun h => h))
  have R9 := Lib.hid (blk_keep f2 R1.out (fun h => h))
  have F9 := Lib.hid (Gr.trans F1.out f2)
  have H9 : Hid (RwAt w2 u z d9 d9a d9c) := Lib.hid ⟨(H1.out.gr f2).act, (H1.out.gr f2).pas, hd9⟩
  have HT := Lib.hid hT
  have HTN := Lib.hid hTn
  have HDA := Lib.hid hda
  have k1 := hT.le
  have k2 := hT.max
  clear hT hTn hda f2 hd9 V1 R1 F1 H1 CS y0 y1 y2 y5
  have yc := (Bx.of_block V9.out) 5 _ rfl
  have zc := Lib.frozen_of_heap V9.out 5
  go_upto_region 3 with fail
  obtain ⟨w30, hw30⟩ : ∃ w30, w30 = World.setCell w2 ⟨W.heap.size, 5, none⟩ (.slice d9a d9.length d9c) := ⟨_, rfl⟩
  rw [← hw30]
  have f30 : Fr (fun k => k = W.heap.size) w2 w30 := by rw [hw30]; exact (Fr.refl (fun k => k = W.heap.size) _).setCell (p := ⟨W.heap.size, 5, none⟩) (.inl rfl) _
  have b30 : w30.heap[W.heap.size]? = some (.cells (rwArr u z d9 d9a d9c) 51 (0, 0)) := by rw [hw30]; exact blk_set1 V9.out 5 _
  clear hw30 yc zc
  have V30 := Lib.hid b30
  have R30 := Lib.hid (blk_keep f30 R9.out (by omega))
  have F30 := Lib.hid (fr_new F9.out f30 (Nat.le_refl _))
  have HX := H9.out.store f30 AP.out HS.out.1 V9.out (noU32_arr _ _ _ _ _)
  have H30 := Lib.hid (show RwAt w30 u z d9 d9a d9c from HX)
  have G30 := Lib.hid f30
  clear HX f30 b30 V9 R9 F9 H9
  have HT30 := Lib.hid (HT.out.keep G30.out (fun q hq he => by have := HTN.out q hq; omega))
  clear HT
  have V31 := Lib.hid (show w30.drew.heap[W.heap.size]? = some (.cells (rwArr u z d9 d9a d9c) 51 (0, 0)) from V30.out)
  have R31 := Lib.hid (show w30.drew.heap[W.heap.size + 1]? = some (.cells rwZ 51 (0, 0)) from R30.out)
  have F31 := Lib.hid (F30.out.drew)
  have H31 := Lib.hid (H30.out.gr ((Fr.refl _ _).drew))
  have T31 := Lib.hid (HT30.out.keep ((Fr.refl (fun _ => False) _).drew) (fun _ _ h => h))
  clear V30 R30 F30 H30 HT30 G30
  haveI : Nonempty (WC (fun _ => True)) := ⟨⟨w30, trivial⟩⟩
  go_upto_region 3 with fail
  refine wp_region_lastO 3 [1] [] [0, 1, 2] (fun w' => ∃ z' : WC (fun _ => True), w' = z'.val) (by kernel_rfl) (by kernel_rfl) (fun c a w d v h => by cases d <;> exact h) (fun c a w d v h => by cases d <;> exact h) ⟨⟨_, trivial⟩, rfl⟩ ?_
  simp only [List.take]
  refine wpT_q (by simp only [List.getElem?_toArray, List.getElem?_cons_zero] <;> rfl) (by rfl) (by rfl) ?_
  go_big_quiet_step (fail)
  refine wpQuiet_nil ?_
  refine wpT_e (by simp only [List.getElem?_toArray, List.getElem?_cons_succ, List.getElem?_cons_zero] <;> rfl) (by rfl) ?_
  refine wpList_load_mid (by rfl) 51 _ (by rfl) W.heap.size 0 (by rfl) (Array.toList (rwArr u z d9 d9a d9c)) _ (blk_range V31.out) Try.underlying51 rfl Try.infoRefView ?_
  go_wp2_with fail
  refine ⟨⟨⟨_, trivial⟩, rfl⟩, ?_⟩
  try simp only [Act.put, List.setIfInBounds_toArray, List.set_cons_succ, List.set_cons_zero]
  repeat (refine wpT_q (by simp only [List.getElem?_toArray, List.getElem?_cons_succ, List.getElem?_cons_zero] <;> rfl) (by rfl) (by rfl) ?_; go_big_quiet_step (fail); refine wpQuiet_nil ?_)
  refine wpT_nil ?_
  simp only [lastQ, List.drop]
  go_wp2_with (refine wpList_storeW (vs := rwArr u z d9 d9a d9c) R31.out (by rfl) 51 _ _ (by rfl) (by rfl) (by rfl) rfl Try.infoRefView (by rw [← Array.all_toList]; rfl) ?_)
  intro w8 f8 b8
  have F8 := Lib.hid (fr_new F31.out f8 (show W.heap.size ≤ W.heap.size + 1 by omega))
  have H8 := Lib.hid (H31.out.store f8 AP.out HS.out.2.1 R31.out noU32_z)
  have T8 := Lib.hid (T31.out.keep f8 (fun q hq he => by have := HTN.out q hq; omega))
  have L8 : Hid ((loadVar 51 ⟨W.heap.size + 1, 0, none⟩).run Try.prog w8 = .ok (.agg (rwArr u z d9 d9a d9c)) w8) := Lib.hid (run_loadVar_mid w8 (W.heap.size + 1) 0 51 (Array.toList (rwArr u z d9 d9a d9c)) _ (blk_range b8) Try.underlying51 rfl Try.infoRefView)
  have A8 : Hid ((asAddr (.pointer (some ⟨W.heap.size + 1, 0, none⟩))).run Try.prog w8 = .ok ⟨W.heap.size + 1, 0, none⟩ w8) := Lib.hid (by simp [go_sem])
  clear f8 b8
  go_wp2_with fail
  refine bodyPost_ret (v := .tuple #[.slice aT T.length cT, .agg (rwArr u z d9 d9a d9c)]) (by simp [results, Try.results62, Sem.run_bind, Result.andThen_ok, L8.out, A8.out]) rfl ?_
  exact ⟨aT, cT, d9a, d9c, rfl, T8.out, fun q hq => by have := HTN.out q hq; omega, H8.out, HDA.out, F8.out⟩

set_option maxHeartbeats 4000000 in
set_option maxRecDepth 100000 in
theorem refMixSample_any (sa sp : Int) (hsa : -9223372036854775808 ≤ sa ∧ sa ≤ 9223372036854775807) (hsp : -9223372036854775808 ≤ sp ∧ sp ≤ 9223372036854775807) (u : Vw) (z : VwP) (ds : List Int) (da : Option Addr) (dc : Nat) (W : World) (h : RwAt W u z ds da dc) (hr : ∀ x ∈ ds, 0 ≤ x ∧ x < 4294967296) (hds : ds.length ≤ 1000) (v : Vw) (hk : Like v u) (hg : v.Good) :
    Calls Try.prog 43 #[.agg (rwArr u z ds da dc), .int .i64 sa, .int .i64 sp] W (SmpOut u z da (mixS v sa sp ds).1 (mixS v sa sp ds).2 W) := by
  obtain ⟨i0, hi, hz0, hz1, hz2⟩ := info_parts Try.infoint
  obtain ⟨w1, hw1⟩ : ∃ w1, w1 = (W.alloc (.cells (rwArr u z ds da dc) 51)).alloc (.cells rwZ 51) := ⟨_, rfl⟩
  have f1 : Gr W w1 := by rw [hw1]; exact ((Fr.refl _ _).alloc _).alloc _
  have V1 := Lib.hid (show w1.heap[W.heap.size]? = some (.cells (rwArr u z ds da dc) 51 (0, 0)) by rw [hw1, heap_alloc_if, if_neg (by simp), heap_alloc_if, if_pos rfl])
  have R1 := Lib.hid (show w1.heap[W.heap.size + 1]? = some (.cells rwZ 51 (0, 0)) by rw [hw1, heap_alloc_if, if_pos (by simp)])
  have s1 : W.heap.size + 1 < w1.heap.size := by rw [hw1]; simp
  have F1 := Lib.hid f1
  have HW1 := Lib.hid hw1
  have H1 := Lib.hid (h.gr f1)
  have e1 := h.act.le
  have e2 := h.act.max
  have e3 := h.pas.le
  have e4 := h.pas.max
  have e5 := h.dr.le
  have e6 := h.dr.max
  obtain ⟨S, hS⟩ : ∃ S : Nat → Prop, S = fun k => k = W.heap.size ∨ k = W.heap.size + 1 := ⟨_, rfl⟩
  have AP := Lib.hid (show VwApart S u z from h.new (fun k hk => by rw [hS] at hk; omega))
  have HS := Lib.hid (show S W.heap.size ∧ S (W.heap.size + 1) ∧ ∀ k, S k → k < w1.heap.size by rw [hS]; exact ⟨.inl rfl, .inr rfl, fun k hk => by omega⟩)
  have LA := Lib.hid (show (u.act ≠ [] → ∀ q, z.aa = some q → q.block < W.heap.size) ∧ (u.pas ≠ [] → ∀ q, z.pa = some q → q.block < W.heap.size) ∧ (ds ≠ [] → ∀ q, da = some q → q.block < W.heap.size) from ⟨h.act.ltNE, h.pas.ltNE, h.dr.ltU⟩)
  have HR := Lib.hid hr
  have HG := Lib.hid hg
  have hq1 := hk.act.length_eq
  have hq2 := hk.pas.length_eq
  have hq3 := hg.act.len
  have hq4 := hg.pas.len
  have hq5 : u.act.length ≤ 64 := by omega
  have hq6 : u.pas.length ≤ 64 := by omega
  clear hw1 f1 h hS
  have CS1 := Lib.hid (fun w (f : Gr w1 w) => refMixSome_any ds da dc z.aa z.ac u.act v.act sa w (H1.out.gr f).dr (H1.out.gr f).act hk.act hg.act.le hq5 hr hds hsa)
  have hr2 := someS_range (f := v.act.length) (l := v.act) (n := sa) hr
  have hAl : (someS v.act.length ds v.act sa).1.length ≤ 64 := Nat.le_trans (someS_le hr) hq3
  have hBl : (someS v.pas.length (someS v.act.length ds v.act sa).2 v.pas sp).1.length ≤ 64 := Nat.le_trans (someS_le hr2.1) hq4
  have CS2 := Lib.hid (fun d2a d2c w (hd2 : SlA w d2a (someS v.act.length ds v.act sa).2.length d2c ((someS v.act.length ds v.act sa).2.map (Value.int .u32))) (f : Gr w1 w) => refMixSome_any (someS v.act.length ds v.act sa).2 d2a d2c z.pa z.pc u.pas v.pas sp w hd2 (H1.out.gr f).pas hk.pas hg.pas.le hq6 hr2.1 (by have := hr2.2; omega) hsp)
  unfold SomeOut at CS1 CS2
  have hd9l : (someS v.pas.length (someS v.act.length ds v.act sa).2 v.pas sp).2.length ≤ ds.length := Nat.le_trans (someS_range hr2.1).2 hr2.2
  have HM : Hid (mixS v sa sp ds = ((v.self :: ((someS v.act.length ds v.act sa).1 ++ (someS v.pas.length (someS v.act.length ds v.act sa).2 v.pas sp).1)).take 64, (someS v.pas.length (someS v.act.length ds v.act sa).2 v.pas sp).2)) := Lib.hid (by unfold mixS; rfl)
  generalize (someS v.pas.length (someS v.act.length ds v.act sa).2 v.pas sp).1 = B at CS2 HM hBl
  generalize (someS v.pas.length (someS v.act.length ds v.act sa).2 v.pas sp).2 = d9 at CS2 HM hd9l
  generalize (someS v.act.length ds v.act sa).1 = A at CS1 HM hAl
  generalize (someS v.act.length ds v.act sa).2 = d2 at CS1 CS2
  rw [HM.out]
  have hself := hk.self
  obtain ⟨T, hT⟩ : ∃ T, T = (v.self :: (A ++ B)).take 64 := ⟨_, rfl⟩
  rw [← hT]
  rw [← hself] at hT
  have HT0 := Lib.hid hT
  clear hk hg hr hq1 hq2 hq3 hq4 hr2 hT HM hself
  go_enter Try.func43, Try.ntmps43
  go_upto_region 1 with fail
  rw [← HW1.out]
  clear HW1
  have y0 := (Bx.of_block V1.out) 0 _ rfl
  have y1 := (Bx.of_block V1.out) 1 _ rfl
  have y2 := (Bx.of_block V1.out) 2 _ rfl
  have y5 := (Bx.of_block V1.out) 5 _ rfl
  go_upto_region 2 with fail
  obtain ⟨w2, hw2⟩ : ∃ w2, w2 = w1.alloc (.cells #[.int .i64 u.self] 3) := ⟨_, rfl⟩
  obtain ⟨ov, hov⟩ : ∃ ov, ov = Value.slice (some ⟨w1.heap.size, 0, none⟩) 1 1 := ⟨_, rfl⟩
  have f2 : Gr w1 w2 := by rw [hw2]; exact (Fr.refl _ _).alloc _
  have O2 := Lib.hid (show w2.ownsRow w1.heap.size 3 1 ov [u.self].length (ints [u.self]) by rw [hw2, hov]; exact own_one w1 _ _ _ (Nat.le_refl _))
  rw [← hw2, ← hov]
  have V2 := Lib.hid (blk_keep f2 V1.out (fun h => h))
  have R2 := Lib.hid (blk_keep f2 R1.out (fun h => h))
  have F2 := Lib.hid f2
  clear hw2 hov f2 y0 y1 y2 y5 V1 R1
  have y1 := (Bx.of_block V2.out) 1 _ rfl
  have y5 := (Bx.of_block V2.out) 5 _ rfl
  go_wp2_with fail
  refine (CS1.out _ F2.out).mono ?_
  rintro e w3 ⟨aA, cA, d2a, d2c, rfl, hA, hAn, hd2, hda, f3⟩
  have V3 := Lib.hid (blk_keep f3 V2.out (fun h => h))
  have R3 := Lib.hid (blk_keep f3 R2.out (fun h => h))
  have F3 := Lib.hid (Gr.trans F2.out f3)
  have O3 := Lib.hid (own_fr O2.out f3 (fun _ _ h => h))
  have HA := Lib.hid hA
  have HD2 := Lib.hid hd2
  have HDA1 := Lib.hid hda
  have k1 := hA.le
  have k2 := hA.max
  have k3 := hd2.le
  have k4 := hd2.max
  have HAN := Lib.hid (fun q (hq : aA = some q) => show W.heap.size < q.block by have := hAn q hq; have := F2.out.size; omega)
  clear hA hAn hda f3 hd2 V2 R2 F2 O2 CS1 y1 y5
  have y2 := (Bx.of_block V3.out) 2 _ rfl
  go_wp2_with fail
  refine (CS2.out d2a d2c _ HD2.out F3.out).mono ?_
  rintro e w4 ⟨aB, cB, d9a, d9c, rfl, hB, hBn, hd9, hda, f4⟩
  have V9 := Lib.hid (blk_keep f4 V3.out (fun h => h))
  have R9 := Lib.hid (blk_keep f4 R3.out (fun h => h))
  have F9' := Lib.hid (Gr.trans F3.out f4)
  have F9 := Lib.hid (Gr.trans F1.out F9'.out)
  have O4 := Lib.hid (own_fr O3.out f4 (fun _ _ h => h))
  have HA4 := Lib.hid (HA.out.keep f4 (fun _ _ h => h))
  have HB := Lib.hid hB
  have H9 : Hid (RwAt w4 u z d9 d9a d9c) := Lib.hid ⟨(H1.out.gr F9'.out).act, (H1.out.gr F9'.out).pas, hd9⟩
  have HDA := Lib.hid (HDA1.out.trans hda)
  have k5 := hB.le
  have k6 := hB.max
  have k7 := hd9.le
  have k8 := hd9.max
  have s4 := F9'.out.size
  have HBN := Lib.hid (fun q (hq : aB = some q) => show w3.heap.size ≤ q.block ∧ W.heap.size < q.block by have := hBn q hq; have := F3.out.size; omega)
  have HOV := Lib.hid (fun q (hq : ov.ownBlock = some q) => show q < w3.heap.size from (O3.out.lt q hq).2)
  clear hB hBn hda f4 hd9 V3 R3 F3 O3 HA HD2 HDA1 CS2 H1 F1 y2
  have yc := (Bx.of_block V9.out) 5 _ rfl
  have zc := Lib.frozen_of_heap V9.out 5
  go_upto_region 5 with fail
  obtain ⟨w30, hw30⟩ : ∃ w30, w30 = World.setCell w4 ⟨W.heap.size, 5, none⟩ (.slice d9a d9.length d9c) := ⟨_, rfl⟩
  rw [← hw30]
  have f30 : Fr (fun k => k = W.heap.size) w4 w30 := by rw [hw30]; exact (Fr.refl (fun k => k = W.heap.size) _).setCell (p := ⟨W.heap.size, 5, none⟩) (.inl rfl) _
  have b30 : w30.heap[W.heap.size]? = some (.cells (rwArr u z d9 d9a d9c) 51 (0, 0)) := by rw [hw30]; exact blk_set1 V9.out 5 _
  clear hw30 yc zc
  have V30 := Lib.hid b30
  have R30 := Lib.hid (blk_keep f30 R9.out (by omega))
  have F30 := Lib.hid (fr_new F9.out f30 (Nat.le_refl _))
  have HX := H9.out.store f30 AP.out HS.out.1 V9.out (noU32_arr _ _ _ _ _)
  have H30 := Lib.hid (show RwAt w30 u z d9 d9a d9c from HX)
  have G30 := Lib.hid f30
  clear HX f30 b30 V9 R9 F9 H9
  have g30 := G30.out
  have hb1 : ∀ k, k = W.heap.size → k < w1.heap.size := fun k hk => by omega
  have O30 := Lib.hid (own_fr O4.out g30 (fun q hq he => by have := (O4.out.lt q hq).1; omega))
  have HA30 := Lib.hid (HA4.out.keep g30 (fun q hq he => by have := HAN.out q hq; omega))
  have HB30 := Lib.hid (HB.out.keep g30 (fun q hq he => by have := (HBN.out q hq).2; omega))
  have s30 := g30.size
  clear g30 hb1 G30 HA4 HB O4 HAN
  go_upto_region 5 with fail
  go_wp2_with (at_builtin; refine wpList_appI (by rfl) _ _ (by rfl) O30.out HA30.out (by rfl) (by rfl) (by omega) (by simp <;> omega) ?_)
  intro v31 w31 ho31 hgr
  have g31 : Fr (fun k => w1.heap.size ≤ k) w30 w31 := ((Fr.refl (fun k => w1.heap.size ≤ k) w30)).grown hgr (fun q hq => .inl (O30.out.lt q hq).1)
  have g31' : Fr (fun k => ov.ownBlock = some k) w30 w31 := ((Fr.refl (fun k => ov.ownBlock = some k) w30)).grown hgr (fun q hq => .inl hq)
  have HB31 := Lib.hid (HB30.out.keep g31' (fun q hq he => by have := (HBN.out q hq).1; have := HOV.out _ he; omega))
  have O31 := Lib.hid (show w31.ownsRow w1.heap.size 3 1 v31 ([u.self] ++ A).length (ints ([u.self] ++ A)) by simpa using ho31)
  have V31' := Lib.hid (blk_keep g31 V30.out (by omega))
  have R31' := Lib.hid (blk_keep g31 R30.out (by omega))
  have F31' := Lib.hid (Fr.trans F30.out g31 (fun k hk => .inr (by omega)))
  have H31' := Lib.hid (H30.out.keepLt g31 (fun hl q hq => by have := LA.out.1 hl q hq; omega) (fun hl q hq => by have := LA.out.2.1 hl q hq; omega) (fun hl q hq => by
    obtain ⟨q0, h0, h1⟩ := HDA.out q hq
    have := LA.out.2.2 (fun e => hl (List.eq_nil_of_length_eq_zero (by rw [e] at hd9l; simpa using hd9l))) q0 h0
    omega))
  have s31 := g31.size
  clear ho31 hgr g31 g31' O30 HA30 HB30 HBN HOV V30 R30 F30 H30
  go_wp2_with (at_builtin; refine wpList_appI (by rfl) _ _ (by rfl) O31.out HB31.out (by rfl) (by rfl) (by omega) (by simp <;> omega) ?_)
  intro v32 w32 ho32 hgr
  have g32 : Fr (fun k => w1.heap.size ≤ k) w31 w32 := ((Fr.refl (fun k => w1.heap.size ≤ k) w31)).grown hgr (fun q hq => .inl (O31.out.lt q hq).1)
  have O32 := Lib.hid (show w32.ownsRow w1.heap.size 3 1 v32 ([u.self] ++ A ++ B).length (ints ([u.self] ++ A ++ B)) by simpa using ho32)
  have V32 := Lib.hid (blk_keep g32 V31'.out (by omega))
  have R32 := Lib.hid (blk_keep g32 R31'.out (by omega))
  have F32 := Lib.hid (Fr.trans F31'.out g32 (fun k hk => .inr (by omega)))
  have H32 := Lib.hid (H31'.out.keepLt g32 (fun hl q hq => by have := LA.out.1 hl q hq; omega) (fun hl q hq => by have := LA.out.2.1 hl q hq; omega) (fun hl q hq => by
    obtain ⟨q0, h0, h1⟩ := HDA.out q hq
    have := LA.out.2.2 (fun e => hl (List.eq_nil_of_length_eq_zero (by rw [e] at hd9l; simpa using hd9l))) q0 h0
    omega))
  clear ho32 hgr g32 O31 HB31 V31' R31' F31' H31' LA hd9l
  obtain ⟨a9, c9, rfl, h9, h9p, -⟩ := SlA.of_own O32.out
  obtain ⟨R, hR⟩ : ∃ R, R = [u.self] ++ A ++ B := ⟨_, rfl⟩
  have hRl : R.length ≤ 129 := by rw [hR]; simp; omega
  have hTR : T = R.take 64 := by rw [HT0.out, hR]; simp
  rw [← hR] at h9 ⊢
  have H9' := Lib.hid h9
  have HTR := Lib.hid hTR
  have HP9 := Lib.hid h9p
  have k9 := h9.le
  have k10 := h9.max
  clear hR hTR h9 h9p O32 HT0
  go_upto_region 6 with fail
  have HTN := Lib.hid (fun q (hq : a9 = some q) => (HP9.out q hq).1)
  by_cases h64 : (64 : Int) < (R.length : Int)
  · have hT64 : T.length = 64 := by rw [HTR.out]; simp; omega
    have HT64 := Lib.hid hT64
    have HT32 := Lib.hid (show SlA w32 a9 T.length c9 (ints T) by rw [hT64, HTR.out]; rw [show ints (R.take 64) = (ints R).take 64 by simp]; exact H9'.out.take 64 64 (by omega))
    clear hT64
    have V31 := Lib.hid (show w32.drew.heap[W.heap.size]? = some (.cells (rwArr u z d9 d9a d9c) 51 (0, 0)) from V32.out)
    have R31 := Lib.hid (show w32.drew.heap[W.heap.size + 1]? = some (.cells rwZ 51 (0, 0)) from R32.out)
    have F31 := Lib.hid (F32.out.drew)
    have H31 := Lib.hid (H32.out.gr ((Fr.refl _ _).drew))
    have T31 := Lib.hid (HT32.out.keep ((Fr.refl (fun _ => False) _).drew) (fun _ _ h => h))
    clear V32 R32 F32 H32 HT32
    haveI : Nonempty (WC (fun _ => True)) := ⟨⟨w32, trivial⟩⟩
    go_upto_region 8 with fail
    refine wp_region_lastO 3 [1] [] [0, 1, 2] (fun w' => ∃ z' : WC (fun _ => True), w' = z'.val) (by kernel_rfl) (by kernel_rfl) (fun c a w d v h => by cases d <;> exact h) (fun c a w d v h => by cases d <;> exact h) ⟨⟨_, trivial⟩, rfl⟩ ?_
    simp only [List.take]
    refine wpT_q (by simp only [List.getElem?_toArray, List.getElem?_cons_zero] <;> rfl) (by rfl) (by rfl) ?_
    go_big_quiet_step (fail)
    refine wpQuiet_nil ?_
    refine wpT_e (by simp only [List.getElem?_toArray, List.getElem?_cons_succ, List.getElem?_cons_zero] <;> rfl) (by rfl) ?_
    refine wpList_load_mid (by rfl) 51 _ (by rfl) W.heap.size 0 (by rfl) (Array.toList (rwArr u z d9 d9a d9c)) _ (blk_range V31.out) Try.underlying51 rfl Try.infoRefView ?_
    go_wp2_with fail
    refine ⟨⟨⟨_, trivial⟩, rfl⟩, ?_⟩
    try simp only [Act.put, List.setIfInBounds_toArray, List.set_cons_succ, List.set_cons_zero]
    repeat (refine wpT_q (by simp only [List.getElem?_toArray, List.getElem?_cons_succ, List.getElem?_cons_zero] <;> rfl) (by rfl) (by rfl) ?_; go_big_quiet_step (fail); refine wpQuiet_nil ?_)
    refine wpT_nil ?_
    simp only [lastQ, List.drop]
    go_wp2_with (refine wpList_storeW (vs := rwArr u z d9 d9a d9c) R31.out (by rfl) 51 _ _ (by rfl) (by rfl) (by rfl) rfl Try.infoRefView (by rw [← Array.all_toList]; rfl) ?_)
    intro w8 f8 b8
    have F8 := Lib.hid (fr_new F31.out f8 (show W.heap.size ≤ W.heap.size + 1 by omega))
    have H8 := Lib.hid (H31.out.store f8 AP.out HS.out.2.1 R31.out noU32_z)
    have T8 := Lib.hid (T31.out.keep f8 (fun q hq he => by have := HTN.out q hq; omega))
    have L8 : Hid ((loadVar 51 ⟨W.heap.size + 1, 0, none⟩).run Try.prog w8 = .ok (.agg (rwArr u z d9 d9a d9c)) w8) := Lib.hid (run_loadVar_mid w8 (W.heap.size + 1) 0 51 (Array.toList (rwArr u z d9 d9a d9c)) _ (blk_range b8) Try.underlying51 rfl Try.infoRefView)
    have A8 : Hid ((asAddr (.pointer (some ⟨W.heap.size + 1, 0, none⟩))).run Try.prog w8 = .ok ⟨W.heap.size + 1, 0, none⟩ w8) := Lib.hid (by simp [go_sem])
    clear f8 b8
    go_wp2_with fail
    refine bodyPost_ret (v := .tuple #[.slice a9 64 c9, .agg (rwArr u z d9 d9a d9c)]) (by simp [results, Try.results43, Sem.run_bind, Result.andThen_ok, L8.out, A8.out]) rfl ?_
    exact ⟨a9, c9, d9a, d9c, by rw [HT64.out], T8.out, fun q hq => by have := HTN.out q hq; omega, H8.out, HDA.out, F8.out⟩
  · have hTe : T = R := by rw [HTR.out]; exact List.take_of_length_le (by omega)
    have HTE := Lib.hid hTe
    have HT32 := Lib.hid (show SlA w32 a9 T.length c9 (ints T) by rw [hTe]; exact H9'.out)
    clear hTe
    have V31 := Lib.hid (show w32.drew.heap[W.heap.size]? = some (.cells (rwArr u z d9 d9a d9c) 51 (0, 0)) from V32.out)
    have R31 := Lib.hid (show w32.drew.heap[W.heap.size + 1]? = some (.cells rwZ 51 (0, 0)) from R32.out)
    have F31 := Lib.hid (F32.out.drew)
    have H31 := Lib.hid (H32.out.gr ((Fr.refl _ _).drew))
    have T31 := Lib.hid (HT32.out.keep ((Fr.refl (fun _ => False) _).drew) (fun _ _ h => h))
    clear V32 R32 F32 H32 HT32
    haveI : Nonempty (WC (fun _ => True)) := ⟨⟨w32, trivial⟩⟩
    go_upto_region 8 with fail
    refine wp_region_lastO 3 [1] [] [0, 1, 2] (fun w' => ∃ z' : WC (fun _ => True), w' = z'.val) (by kernel_rfl) (by kernel_rfl) (fun c a w d v h => by cases d <;> exact h) (fun c a w d v h => by cases d <;> exact h) ⟨⟨_, trivial⟩, rfl⟩ ?_
    simp only [List.take]
    refine wpT_q (by simp only [List.getElem?_toArray, List.getElem?_cons_zero] <;> rfl) (by rfl) (by rfl) ?_
    go_big_quiet_step (fail)
    refine wpQuiet_nil ?_
    refine wpT_e (by simp only [List.getElem?_toArray, List.getElem?_cons_succ, List.getElem?_cons_zero] <;> rfl) (by rfl) ?_
    refine wpList_load_mid (by rfl) 51 _ (by rfl) W.heap.size 0 (by rfl) (Array.toList (rwArr u z d9 d9a d9c)) _ (blk_range V31.out) Try.underlying51 rfl Try.infoRefView ?_
    go_wp2_with fail
    refine ⟨⟨⟨_, trivial⟩, rfl⟩, ?_⟩
    try simp only [Act.put, List.setIfInBounds_toArray, List.set_cons_succ, List.set_cons_zero]
    repeat (refine wpT_q (by simp only [List.getElem?_toArray, List.getElem?_cons_succ, List.getElem?_cons_zero] <;> rfl) (by rfl) (by rfl) ?_; go_big_quiet_step (fail); refine wpQuiet_nil ?_)
    refine wpT_nil ?_
    simp only [lastQ, List.drop]
    go_wp2_with (refine wpList_storeW (vs := rwArr u z d9 d9a d9c) R31.out (by rfl) 51 _ _ (by rfl) (by rfl) (by rfl) rfl Try.infoRefView (by rw [← Array.all_toList]; rfl) ?_)
    intro w8 f8 b8
    have F8 := Lib.hid (fr_new F31.out f8 (show W.heap.size ≤ W.heap.size + 1 by omega))
    have H8 := Lib.hid (H31.out.store f8 AP.out HS.out.2.1 R31.out noU32_z)
    have T8 := Lib.hid (T31.out.keep f8 (fun q hq he => by have := HTN.out q hq; omega))
    have L8 : Hid ((loadVar 51 ⟨W.heap.size + 1, 0, none⟩).run Try.prog w8 = .ok (.agg (rwArr u z d9 d9a d9c)) w8) := Lib.hid (run_loadVar_mid w8 (W.heap.size + 1) 0 51 (Array.toList (rwArr u z d9 d9a d9c)) _ (blk_range b8) Try.underlying51 rfl Try.infoRefView)
    have A8 : Hid ((asAddr (.pointer (some ⟨W.heap.size + 1, 0, none⟩))).run Try.prog w8 = .ok ⟨W.heap.size + 1, 0, none⟩ w8) := Lib.hid (by simp [go_sem])
    clear f8 b8
    go_wp2_with fail
    refine bodyPost_ret (v := .tuple #[.slice a9 R.length c9, .agg (rwArr u z d9 d9a d9c)]) (by simp [results, Try.results43, Sem.run_bind, Result.andThen_ok, L8.out, A8.out]) rfl ?_
    exact ⟨a9, c9, d9a, d9c, by rw [HTE.out], T8.out, fun q hq => by have := HTN.out q hq; omega, H8.out, HDA.out, F8.out⟩
end Go.Proofs.Ytdpnkikaciigoaa
