/-
  The document's peers: Up, Match (printed by gen_rpeersc.py).
-/
import Derived.Test.YtelepohdfcjnfaaZRPeersB
namespace Go.Proofs.Ytelepohdfcjnfaa
open Go.RowKit Go.Proofs

theorem Sta.rowInt {W : World} {O : Nat → Prop} {p : Value} {D : List Int} {B : List Blk} {L : List Ow} {R : List Rw} {w : World} (h : Sta W O p D B L R w) (i : Nat) {b o n cap k : Nat} {l : List Int} {v : Int} (hi : R[i]? = some ⟨some ⟨b, o, none⟩, n, cap, ints l⟩) (hk : l[k]? = some v) : w.cell? ⟨b, o + k, none⟩ = some (.int .i64 v) :=
  h.rowCell i k hi (by unfold ints; rw [List.getElem?_map, hk]; rfl)

set_option maxHeartbeats 4000000 in
set_option maxRecDepth 100000 in
theorem rpUp_any (m : Pe) (x : PeP) (n : Int) (O : Nat → Prop) (W : World) (hs : Sta W O (.pointer none) [] [] [] (prows m x []) W) (hf : m.Few) :
    Calls Try.prog 34 #[.agg (m.rarr x), .int .i64 n] W (RPEnd W O (rpUp m n) (fun a => .agg a)) := by
  have HF := Lib.hid hf
  clear hf
  have CI := Lib.hid (fun w (h1 : SlA w x.ea m.e.length x.ec (ints m.e)) (h2 : SlA w x.za m.z.length x.zc (ints m.z)) => rpIs_any m x n w h1 h2)
  obtain ⟨v, hv⟩ : ∃ v, v = rpUp m n := ⟨_, rfl⟩
  rw [← hv]
  have HV := Lib.hid hv
  clear hv
  obtain ⟨c, hc⟩ : ∃ c, c = peHas m n := ⟨_, rfl⟩
  rw [← hc] at CI
  have HC := Lib.hid hc
  clear hc
  obtain ⟨N, hN⟩ : ∃ N, N = rpUpOk m n := ⟨_, rfl⟩
  have HN := Lib.hid hN
  clear hN
  obtain ⟨w1, hw1⟩ : ∃ w1, w1 = (W.alloc (.cells (m.rarr x) 77)).alloc (.cells rpeZ 77) := ⟨_, rfl⟩
  obtain ⟨b0, hb0⟩ : ∃ b, b = W.heap.size := ⟨_, rfl⟩
  obtain ⟨b1, hb1⟩ : ∃ b, b = W.heap.size + 1 := ⟨_, rfl⟩
  have ST1 := Lib.hid (show Sta W O (.pointer none) [] [⟨b1, rpeZ, 77⟩, ⟨b0, m.rarr x, 77⟩] [] (prows m x []) w1 by rw [hw1]; exact (hs.box _ _ hb0).box _ _ (by rw [World.size_alloc]; exact hb1))
  have HW1 := Lib.hid hw1
  have HB0 := Lib.hid hb0
  have HB1 := Lib.hid hb1
  clear hw1 hb0 hb1 hs
  have l10 := (ST1.out.rowAt 0 rfl).le
  have l11 := (ST1.out.rowAt 0 rfl).max
  have l12 := (ST1.out.rowAt 1 rfl).le
  have l13 := (ST1.out.rowAt 1 rfl).max
  go_enter Try.func34, Try.ntmps34
  go_upto_region 1 with fail
  rw [← HW1.out, ← HB1.out, ← HB0.out]
  clear HW1 HB0 HB1
  go_cut [26] from 5 to 25 (fun a wx => a = .bool N ∧ Gr w1 wx)
  case first =>
    have y0 : w1.cell? ⟨b0, 0, none⟩ = some (.slice x.ea m.e.length x.ec) := ST1.out.cell 1 0 rfl rfl
    have y1 : w1.cell? ⟨b0, 1, none⟩ = some (.slice x.za m.z.length x.zc) := ST1.out.cell 1 1 rfl rfl
    by_cases h1 : 1 ≤ n
    rotate_left
    · have d1 : decide (1 ≤ n) = false := decide_eq_false h1
      have hn : Hid (N = false) := Lib.hid (by rw [HN.out]; unfold rpUpOk; rw [d1]; simp)
      go_wp2_with fail
      go_meet
      exact ⟨by rw [hn.out], Fr.refl _ _⟩
    by_cases h2 : n ≤ 65535
    rotate_left
    · have d1 : decide (1 ≤ n) = true := decide_eq_true h1
      have d2 : decide (n ≤ 65535) = false := decide_eq_false h2
      have hn : Hid (N = false) := Lib.hid (by rw [HN.out]; unfold rpUpOk; rw [d1, d2]; simp)
      go_wp2_with fail
      go_meet
      exact ⟨by rw [hn.out], Fr.refl _ _⟩
    have d1 : decide (1 ≤ n) = true := decide_eq_true h1
    have d2 : decide (n ≤ 65535) = true := decide_eq_true h2
    clear h1 h2
    go_wp2_with fail
    refine (CI.out _ (ST1.out.rowAt 0 rfl) (ST1.out.rowAt 1 rfl)).mono ?_
    rintro e w2 ⟨rfl, f2⟩
    have z0 : w2.cell? ⟨b0, 0, none⟩ = some (.slice x.ea m.e.length x.ec) := f2.cell y0 (fun h => h)
    have z1 : w2.cell? ⟨b0, 1, none⟩ = some (.slice x.za m.z.length x.zc) := f2.cell y1 (fun h => h)
    have FF := Lib.hid f2
    clear f2 y0 y1
    cases c
    rotate_left
    · have HC2 : Hid (peHas m n = true) := Lib.hid HC.out.symm
      have hn : Hid (N = false) := Lib.hid (by rw [HN.out]; unfold rpUpOk; rw [d1, d2, HC2.out]; simp)
      go_wp2_with fail
      go_meet
      exact ⟨by rw [hn.out], FF.out⟩
    have HC2 : Hid (peHas m n = false) := Lib.hid HC.out.symm
    obtain ⟨M, hM⟩ : ∃ M : Nat, m.e.length + m.z.length = M := ⟨_, rfl⟩
    have HM := Lib.hid hM
    have hM2 : M ≤ 200 := by have := HF.out.e; have := HF.out.z; omega
    have hs : (m.e.length : Int) + (m.z.length : Int) = (M : Int) := by omega
    clear hM
    by_cases h64 : M < 64
    · have d3 : decide ((M : Int) < 64) = true := decide_eq_true (by omega)
      have d4 : Hid (decide (m.e.length + m.z.length < 64) = true) := Lib.hid (by rw [HM.out]; exact decide_eq_true h64)
      have hn : Hid (N = true) := Lib.hid (by rw [HN.out]; unfold rpUpOk; rw [d1, d2, HC2.out, d4.out]; rfl)
      go_wp2_with fail
      go_meet
      exact ⟨by rw [hn.out], FF.out⟩
    · have d3 : decide ((M : Int) < 64) = false := decide_eq_false (by omega)
      have d4 : Hid (decide (m.e.length + m.z.length < 64) = false) := Lib.hid (by rw [HM.out]; exact decide_eq_false h64)
      have hn : Hid (N = false) := Lib.hid (by rw [HN.out]; unfold rpUpOk; rw [d1, d2, HC2.out, d4.out]; rfl)
      go_wp2_with fail
      go_meet
      exact ⟨by rw [hn.out], FF.out⟩
  case rest =>
    obtain ⟨rfl, f2⟩ := hcut
    generalize wc = w2 at f2 ⊢
    have ST2 := Lib.hid (show Sta W O (.pointer none) [] [⟨b1, rpeZ, 77⟩, ⟨b0, m.rarr x, 77⟩] [] (prows m x []) w2 from ST1.out.gr f2)
    clear ST1 f2
    clear CI HC
    cases N
    case false =>
      obtain rfl : m = v := by rw [HV.out]; unfold rpUp; rw [← HN.out, if_neg (by decide)]
      clear HV HN
      go_upto_region 3 with fail
      refine wp_region_lit ?_
      refine wpList_load_mid (by rfl) 77 _ (by rfl) b0 0 (by rfl) (Array.toList (m.rarr x)) _ (blk_range (ST2.out.blkAt 1 rfl)) Try.underlying77 rfl Try.infoRPeers ?_
      go_wp2_with (refine wpList_storeW (vs := m.rarr x) (ST2.out.blkAt 0 rfl) (by rfl) 77 _ _ (by rfl) (by rfl) (by rfl) rfl Try.infoRPeers (by rw [← Array.all_toList]; rfl) ?_)
      intro w9 f_ b_
      have ST3 := Lib.hid (show Sta W O (.pointer none) [] [⟨b1, m.rarr x, 77⟩, ⟨b0, m.rarr x, 77⟩] [] (prows m x []) w9 from ST2.out.store 0 rfl f_ b_)
      clear ST2 f_ b_
      have LL : Hid ((loadVar 77 ⟨b1, 0, none⟩).run Try.prog w9 = .ok (.agg (m.rarr x)) w9) := Lib.hid (run_loadVar_mid w9 b1 0 77 (Array.toList (m.rarr x)) _ (blk_range (ST3.out.blkAt 0 rfl)) Try.underlying77 rfl Try.infoRPeers)
      have LA : Hid ((asAddr (.pointer (some ⟨b1, 0, none⟩))).run Try.prog w9 = .ok ⟨b1, 0, none⟩ w9) := Lib.hid (by simp [go_sem])
      go_wp2_with fail
      refine bodyPost_ret (v := .agg (m.rarr x)) (by simp [results, Try.results34, Sem.run_bind, Result.andThen_ok, LL.out, LA.out]) rfl ?_
      exact ⟨x, rfl, ST3.out.out (List.Sublist.refl _) (inC (at_ 0 rfl) (inC (at_ 1 rfl) inN))⟩
    case true =>
      obtain ⟨A, hA⟩ : ∃ A, A = m.e ++ [n] := ⟨_, rfl⟩
      obtain rfl : (⟨A, m.z⟩ : Pe) = v := by rw [HV.out]; unfold rpUp; rw [← HN.out, if_pos rfl, hA]
      have HA := Lib.hid hA
      clear hA HV HN
      have y0 : w2.cell? ⟨b0, 0, none⟩ = some (.slice x.ea m.e.length x.ec) := ST2.out.cell 1 0 rfl rfl
      have hlt : b0 < w2.heap.size := lt_heap (ST2.out.blkAt 1 rfl)
      go_upto_region 2 with fail
      go_wp2_with (at_builtin; obtain ⟨w3, hw_⟩ : ∃ x, x = w2.alloc (.cells #[] 3) := ⟨_, rfl⟩; obtain ⟨e0, he_⟩ : ∃ b, b = w2.heap.size := ⟨_, rfl⟩; rw [← hw_, ← he_]; have ST3 := Lib.hid (show Sta W O (.pointer none) [] [⟨b1, rpeZ, 77⟩, ⟨b0, m.rarr x, 77⟩] [⟨3, 1, .slice (some ⟨e0, 0, none⟩) 0 0, 0, []⟩] (prows m x []) w3 from hw_ ▸ ST2.out.ownNew ((Fr.refl _ _).alloc _) (xs := []) (n := 0) (by rw [heap_alloc_if, if_pos he_]) (Nat.le_of_eq he_.symm) rfl (by decide)); clear ST2 hw_ he_ y0 hlt; refine wpList_growI (by rfl) _ _ (by rfl) ST3.out 0 rfl (ST3.out.rowAt 0 rfl) (by rfl) (by rfl) (by have := HF.out.e; omega) ?_)
      intro v3 w4 hst
      have ST4 := Lib.hid (show Sta W O (.pointer none) [] [⟨b1, rpeZ, 77⟩, ⟨b0, m.rarr x, 77⟩] [⟨3, 1, v3, m.e.length, ints m.e⟩] (prows m x []) w4 from by simpa using hst)
      clear hst ST3
      go_wp2_with (at_builtin; obtain ⟨w5, hw_⟩ : ∃ x, x = w4.alloc (.cells #[.int .i64 n] 3) := ⟨_, rfl⟩; obtain ⟨e1, he_⟩ : ∃ b, b = w4.heap.size := ⟨_, rfl⟩; rw [← hw_, ← he_]; have ST5 := Lib.hid (show Sta W O (.pointer none) [] [⟨b1, rpeZ, 77⟩, ⟨b0, m.rarr x, 77⟩] [⟨3, 1, .slice (some ⟨e1, 0, none⟩) 1 1, 1, [.int .i64 n]⟩, ⟨3, 1, v3, m.e.length, ints m.e⟩] (prows m x []) w5 from hw_ ▸ ST4.out.ownNew ((Fr.refl _ _).alloc _) (xs := [.int .i64 n]) (n := 1) (by rw [heap_alloc_if, if_pos he_]) (Nat.le_of_eq he_.symm) rfl (by decide)); clear ST4 hw_ he_; refine wpList_growT (by rfl) _ _ 25 3 1 8 (.int .i64 0) Try.underlying25 Try.infoint rfl (by decide) (by decide) (by rfl) ST5.out 1 rfl (by rfl) (by rfl) (own_add (ST5.out.ownAt 0 rfl)) (by rfl) (by rfl) (by have := HF.out.e; omega) ?_)
      intro v5 w6 hst
      have ST6 := Lib.hid (show Sta W O (.pointer none) [] [⟨b1, rpeZ, 77⟩, ⟨b0, m.rarr x, 77⟩] [⟨3, 1, .slice (some ⟨e1, 0, none⟩) 1 1, 1, [.int .i64 n]⟩, ⟨3, 1, v5, m.e.length + 1, ints m.e ++ [.int .i64 n]⟩] (prows m x []) w6 from hst)
      clear hst ST5
      obtain ⟨ra, rc, rfl, hst⟩ := ST6.out.asRow 1 rfl
      have hrr : m.e.length + 1 = A.length ∧ ints m.e ++ [Value.int .i64 n] = ints A := by rw [HA.out]; constructor <;> simp
      rw [hrr.1, hrr.2] at hst
      rw [hrr.1]
      have ST7 := Lib.hid (show Sta W O (.pointer none) [] [⟨b1, rpeZ, 77⟩, ⟨b0, m.rarr x, 77⟩] [⟨3, 1, .slice (some ⟨e1, 0, none⟩) 1 1, 1, [.int .i64 n]⟩] (⟨ra, A.length, rc, ints A⟩ :: prows m x []) w6 from hst)
      clear hst hrr ST6
      have zf : w6.frozen? ⟨b0, 0, none⟩ = false := ST7.out.froz 1 0 rfl
      have y0 : w6.cell? ⟨b0, 0, none⟩ = some (.slice x.ea m.e.length x.ec) := ST7.out.cell 1 0 rfl rfl
      go_upto_region 3 with fail
      obtain ⟨w7, hw_⟩ : ∃ x, x = w6.setCell ⟨b0, 0, none⟩ (.slice ra A.length rc) := ⟨_, rfl⟩
      rw [← hw_]
      have ST8 := Lib.hid (show Sta W O (.pointer none) [] [⟨b1, rpeZ, 77⟩, ⟨b0, #[.slice ra A.length rc, .slice x.za m.z.length x.zc], 77⟩] [⟨3, 1, .slice (some ⟨e1, 0, none⟩) 1 1, 1, [.int .i64 n]⟩] (⟨ra, A.length, rc, ints A⟩ :: prows m x []) w7 from hw_ ▸ ST7.out.setC 1 rfl 0 (.slice ra A.length rc) (Nat.le_of_ble_eq_true rfl))
      clear ST7 hw_
      clear zf y0
      refine wp_region_lit ?_
      refine wpList_load_mid (by rfl) 77 _ (by rfl) b0 0 (by rfl) (Array.toList (#[.slice ra A.length rc, .slice x.za m.z.length x.zc])) _ (blk_range (ST8.out.blkAt 1 rfl)) Try.underlying77 rfl Try.infoRPeers ?_
      go_wp2_with (refine wpList_storeW (vs := #[.slice ra A.length rc, .slice x.za m.z.length x.zc]) (ST8.out.blkAt 0 rfl) (by rfl) 77 _ _ (by rfl) (by rfl) (by rfl) rfl Try.infoRPeers (by rw [← Array.all_toList]; rfl) ?_)
      intro w8 f_ b_
      have ST9 := Lib.hid (show Sta W O (.pointer none) [] [⟨b1, #[.slice ra A.length rc, .slice x.za m.z.length x.zc], 77⟩, ⟨b0, #[.slice ra A.length rc, .slice x.za m.z.length x.zc], 77⟩] [⟨3, 1, .slice (some ⟨e1, 0, none⟩) 1 1, 1, [.int .i64 n]⟩] (⟨ra, A.length, rc, ints A⟩ :: prows m x []) w8 from ST8.out.store 0 rfl f_ b_)
      clear ST8 f_ b_
      have LL : Hid ((loadVar 77 ⟨b1, 0, none⟩).run Try.prog w8 = .ok (.agg (#[.slice ra A.length rc, .slice x.za m.z.length x.zc])) w8) := Lib.hid (run_loadVar_mid w8 b1 0 77 (Array.toList (#[.slice ra A.length rc, .slice x.za m.z.length x.zc])) _ (blk_range (ST9.out.blkAt 0 rfl)) Try.underlying77 rfl Try.infoRPeers)
      have LA : Hid ((asAddr (.pointer (some ⟨b1, 0, none⟩))).run Try.prog w8 = .ok ⟨b1, 0, none⟩ w8) := Lib.hid (by simp [go_sem])
      go_wp2_with fail
      refine bodyPost_ret (v := .agg (#[.slice ra A.length rc, .slice x.za m.z.length x.zc])) (by simp [results, Try.results34, Sem.run_bind, Result.andThen_ok, LL.out, LA.out]) rfl ?_
      exact ⟨⟨ra, rc, x.za, x.zc⟩, rfl, ST9.out.out (List.nil_sublist _) (inC (at_ 0 rfl) (inC (at_ 2 rfl) inN))⟩

/-- what the document's Match leaves -/
def RMEnd (W : World) (O : Nat → Prop) (q : Pe) (l : List Int) (e : Ending) (w' : World) : Prop :=
  ∃ x' a c, e = .returned (.tuple #[.agg (q.rarr x'), .slice a l.length c]) ∧ Sta W O (.pointer none) [] [] [] (prows q x' [⟨a, l.length, c, ints l⟩]) w'
/-- how many the document's lists hold -/
def Pe.Fit (m : Pe) : Prop := m.e.length + m.z.length ≤ 64
theorem Pe.Fit.few {m : Pe} (h : m.Fit) : m.Few := by unfold Pe.Fit at h; exact ⟨by omega, by omega⟩
theorem Pe.Fit.down {m : Pe} (h : m.Fit) (n : Int) : (rpDown m n).Fit := by
  have := rDrop_len m.e n
  have := rDrop_len m.z n
  unfold Pe.Fit rpDown at *
  simp only
  omega
theorem Pe.Fit.up {m : Pe} (h : m.Fit) (n : Int) : (rpUp m n).Fit := by
  unfold rpUp
  split
  · rename_i hk
    unfold rpUpOk at hk
    simp only [Bool.and_eq_true, decide_eq_true_eq] at hk
    unfold Pe.Fit
    simp only [List.length_append, List.length_cons, List.length_nil]
    omega
  · exact h
def MFit (m : Pe) : Prop := m.Fit

set_option maxHeartbeats 4000000 in
set_option maxRecDepth 100000 in
theorem rpMatch_any (m : Pe) (x : PeP) (act : List Int) (aa : Option Addr) (ac : Nat) (O : Nat → Prop) (W : World) (hs : Sta W O (.pointer none) [] [] [] (prows m x [⟨aa, act.length, ac, ints act⟩]) W) (hf : m.Fit) :
    Calls Try.prog 38 #[.agg (m.rarr x), .slice aa act.length ac] W (RMEnd W O (rpMatch m act) (peNew m (rpMatch m act))) := by
  obtain ⟨ip, hp1, hp2, hp3⟩ := info_pair Try.zeroRPeers
  have HF := Lib.hid hf
  have CC := Lib.hid (fun n w (h1 : SlA w aa act.length ac (ints act)) => refHas_any aa ac act n w h1)
  obtain ⟨qm, hqm⟩ : ∃ q, q = rpMatch m act := ⟨_, rfl⟩
  rw [← hqm]
  have HQM := Lib.hid hqm
  clear hqm
  obtain ⟨w1, hw1⟩ : ∃ w1, w1 = (W.alloc (.cells (m.rarr x) 77)).alloc (.cells rpeZ 77) := ⟨_, rfl⟩
  obtain ⟨b0, hb0⟩ : ∃ b, b = W.heap.size := ⟨_, rfl⟩
  obtain ⟨b1, hb1⟩ : ∃ b, b = W.heap.size + 1 := ⟨_, rfl⟩
  have ST1 := Lib.hid (show Sta W O (.pointer none) [] [⟨b1, rpeZ, 77⟩, ⟨b0, m.rarr x, 77⟩] [] (prows m x [⟨aa, act.length, ac, ints act⟩]) w1 by rw [hw1]; exact (hs.box _ _ hb0).box _ _ (by rw [World.size_alloc]; exact hb1))
  have HW1 := Lib.hid hw1
  have HB0 := Lib.hid hb0
  have HB1 := Lib.hid hb1
  clear hw1 hb0 hb1 hs hf
  go_enter Try.func38, Try.ntmps38
  go_upto_region 1 with fail
  rw [← HW1.out, ← HB1.out, ← HB0.out]
  clear HW1 HB0 HB1
  refine wp_region_lit ?_
  refine wpList_load_mid (by rfl) 77 _ (by rfl) b0 0 (by rfl) (Array.toList (m.rarr x)) _ (blk_range (ST1.out.blkAt 1 rfl)) Try.underlying77 rfl Try.infoRPeers ?_
  go_wp2_with (refine wpList_fresh (vs := m.rarr x) hp1 hp2 Try.infoRPeers (by rfl) (by rw [← Array.all_toList]; rfl) (by rfl) (by rfl) ?_)
  intro w2 f_ b_ l_
  obtain ⟨b2, hb_⟩ : ∃ b, b = w1.heap.size := ⟨_, rfl⟩
  rw [← hb_] at b_ l_ ⊢
  have ST2 := Lib.hid (show Sta W O (.pointer none) [] [⟨b2, m.rarr x, 77⟩, ⟨b1, rpeZ, 77⟩, ⟨b0, m.rarr x, 77⟩] [] (prows m x [⟨aa, act.length, ac, ints act⟩]) w2 from ST1.out.var f_ b_ (Nat.le_of_eq hb_.symm))
  clear ST1 f_ b_ l_ hb_
  go_upto_region 2 with fail
  refine wp_region_lit ?_
  refine wpList_load_mid (by rfl) 77 _ (by rfl) b0 0 (by rfl) (Array.toList (m.rarr x)) _ (blk_range (ST2.out.blkAt 2 rfl)) Try.underlying77 rfl Try.infoRPeers ?_
  go_wp2_with fail
  refine (rpAll_any m x _ _ (ST2.out.enterN (prows m x []) (inC (at_ 0 rfl) (inC (at_ 1 rfl) inN))) HF.out.few).mono ?_
  intro e w3 hst
  obtain ⟨la, lc, rfl, hst2⟩ := ST2.out.callNew hst
  have ST3 := Lib.hid (show Sta W O (.pointer none) [] [⟨b2, m.rarr x, 77⟩, ⟨b1, rpeZ, 77⟩, ⟨b0, m.rarr x, 77⟩] [] (⟨la, (peAll m).length, lc, ints (peAll m)⟩ :: prows m x [⟨aa, act.length, ac, ints act⟩]) w3 from hst2)
  clear hst hst2 ST2
  have l1 := (ST3.out.rowAt 0 rfl).le
  have l2 := (ST3.out.rowAt 0 rfl).max
  have l3 := (ST3.out.rowAt 3 rfl).le
  have l4 := (ST3.out.rowAt 3 rfl).max
  obtain ⟨l, hl⟩ : ∃ l, l = peAll m := ⟨_, rfl⟩
  rw [← hl] at l1
  have HL := Lib.hid hl
  have ST4 := Lib.hid (show Sta W O (.pointer none) [] [⟨b2, m.rarr x, 77⟩, ⟨b1, rpeZ, 77⟩, ⟨b0, m.rarr x, 77⟩] [] (⟨la, l.length, lc, ints l⟩ :: prows m x [⟨aa, act.length, ac, ints act⟩]) w3 from hl ▸ ST3.out)
  rw [← hl]
  clear hl ST3
  go_wp2_with fail
  go_loopw [8] (fun iv wr => ∃ (k : Nat) (q : Pe) (x' : PeP), iv = .int .i64 k ∧ k ≤ l.length ∧ q = (l.take k).foldl (rpCut act) m ∧ q.Fit ∧ Sta W O (.pointer none) [] [⟨b2, q.rarr x', 77⟩, ⟨b1, rpeZ, 77⟩, ⟨b0, m.rarr x, 77⟩] [] (prows q x' (⟨la, l.length, lc, ints l⟩ :: prows m x [⟨aa, act.length, ac, ints act⟩])) wr) (fun iv _ => l.length - (intOf iv).toNat)
  case atStart => exact ⟨0, m, x, rfl, Nat.zero_le _, rfl, HF.out, ST4.out.less (List.Sublist.refl _) (inC (at_ 1 rfl) (inC (at_ 2 rfl) (inC (at_ 0 rfl) (inC (at_ 1 rfl) (inC (at_ 2 rfl) (inC (at_ 3 rfl) inN))))))⟩
  case round =>
    obtain ⟨k, q, x', rfl, hk, hq, hgq, hst⟩ := hrel
    clear ST4
    have ST20 := Lib.hid hst
    have HQ := Lib.hid hq
    have GQ := Lib.hid hgq
    clear hst hq hgq
    by_cases hlt : k < l.length
    · obtain ⟨bl, ol, rfl, hc⟩ := (ST20.out.rowAt 2 rfl).int k hlt
      have hts : (l.take (k + 1)).foldl (rpCut act) m = rpCut act q l[k] := by rw [HQ.out, List.take_succ_eq_append_getElem hlt, List.foldl_append]; rfl
      have HTS := Lib.hid hts
      have HKK := Lib.hid (List.getElem?_eq_getElem hlt)
      clear hts
      generalize l[k] = n at hc HTS HKK
      have CK := Lib.hid (CC.out n)
      go_wp2_with fail
      refine (CK.out _ (ST20.out.rowAt 5 rfl)).mono ?_
      rintro e _ ⟨rfl, rfl⟩
      cases e1 : has act n
      case true =>
        have HN := Lib.hid (show rpCut act q n = q by unfold rpCut; rw [e1, if_pos rfl])
        clear e1 hc
        go_wp2_with fail
        go_roundw
        case rel => exact ⟨k + 1, q, x', by go_num, hlt, by rw [HTS.out, HN.out], GQ.out, ST20.out⟩
        case measure => simp [intOf]; omega
      case false =>
        have HN := Lib.hid (show rpCut act q n = rpDown q n by unfold rpCut; rw [e1, if_neg (by decide)])
        clear e1
        go_upto_region 7 with fail
        obtain ⟨wd, hwd⟩ : ∃ x, x = wr.drew := ⟨_, rfl⟩
        have HWD := Lib.hid hwd
        have ST21 := Lib.hid (show Sta W O (.pointer none) [] [⟨b2, q.rarr x', 77⟩, ⟨b1, rpeZ, 77⟩, ⟨b0, m.rarr x, 77⟩] [] (prows q x' (⟨some ⟨bl, ol, none⟩, l.length, lc, ints l⟩ :: prows m x [⟨aa, act.length, ac, ints act⟩])) wd from hwd ▸ ST20.out.gr ((Fr.refl _ _).drew))
        clear ST20 hwd
        haveI : Nonempty (WC (fun w => w.heap[b2]? = some (.cells (q.rarr x') 77 (0, 0)) ∧ w.cell? ⟨bl, ol + k, none⟩ = some (.int .i64 n))) := ⟨⟨wd, ⟨ST21.out.blkAt 0 rfl, ST21.out.rowInt 2 rfl HKK.out⟩⟩⟩
        have qc : ∀ z : WC (fun w => w.heap[b2]? = some (.cells (q.rarr x') 77 (0, 0)) ∧ w.cell? ⟨bl, ol + k, none⟩ = some (.int .i64 n)), z.val.cell? ⟨bl, ol + k, none⟩ = some (.int .i64 n) := fun z => z.ok.2
        refine wp_region_lastO 6 [5] [] [0, 1, 2, 3, 4, 5] (fun w' => ∃ z : WC (fun w => w.heap[b2]? = some (.cells (q.rarr x') 77 (0, 0)) ∧ w.cell? ⟨bl, ol + k, none⟩ = some (.int .i64 n)), w' = z.val) (by kernel_rfl) (by kernel_rfl) (fun c a w d v h => by cases d <;> exact h) (fun c a w d v h => by cases d <;> exact h) (by rw [← HWD.out]; exact ⟨⟨wd, ⟨ST21.out.blkAt 0 rfl, ST21.out.rowInt 2 rfl HKK.out⟩⟩, rfl⟩) ?_
        rw [← HWD.out]
        clear HWD
        simp only [List.take]
        refine wpT_q (by simp only [List.getElem?_toArray, List.getElem?_cons_zero] <;> rfl) (by rfl) (by rfl) ?_
        refine wpQuiet_loadH (by rfl) 77 _ (by rfl) b2 0 (by rfl) (Array.toList (q.rarr x')) _ (fun w ⟨z, hz⟩ => hz ▸ blk_range z.ok.1) Try.underlying77 rfl Try.infoRPeers ?_
        refine wpQuiet_nil ?_
        simp only [Act.put, List.setIfInBounds_toArray, List.set_cons_succ, List.set_cons_zero]
        refine wpT_q (by simp only [List.getElem?_toArray, List.getElem?_cons_succ, List.getElem?_cons_zero] <;> rfl) (by rfl) (by rfl) ?_
        go_big_quiet_step (fail)
        refine wpQuiet_nil ?_
        refine wpT_q (by simp only [List.getElem?_toArray, List.getElem?_cons_succ, List.getElem?_cons_zero] <;> rfl) (by rfl) (by rfl) ?_
        go_big_quiet_step (fail)
        refine wpQuiet_nil ?_
        refine wpT_q (by simp only [List.getElem?_toArray, List.getElem?_cons_succ, List.getElem?_cons_zero] <;> rfl) (by rfl) (by rfl) ?_
        go_big_quiet_step (fail)
        refine wpQuiet_nil ?_
        refine wpT_q (by simp only [List.getElem?_toArray, List.getElem?_cons_succ, List.getElem?_cons_zero] <;> rfl) (by rfl) (by rfl) ?_
        go_big_quiet_step (fail)
        refine wpQuiet_nil ?_
        refine wpT_e (by simp only [List.getElem?_toArray, List.getElem?_cons_succ, List.getElem?_cons_zero] <;> rfl) (by rfl) ?_
        go_wp2_with fail
        refine (rpDown_any q x' n _ _ (ST21.out.enterN (prows q x' []) (inC (at_ 0 rfl) (inC (at_ 1 rfl) inN))) GQ.out.few).mono ?_
        intro e w5 hst
        obtain ⟨xn, rfl, hst2⟩ := hst
        have ST22 := Lib.hid (show Sta W O (.pointer none) [] [⟨b2, q.rarr x', 77⟩, ⟨b1, rpeZ, 77⟩, ⟨b0, m.rarr x, 77⟩] [] (prows (rpDown q n) xn (prows q x' (⟨some ⟨bl, ol, none⟩, l.length, lc, ints l⟩ :: prows m x [⟨aa, act.length, ac, ints act⟩]))) w5 from ST21.out.leaveN (inC (at_ 0 rfl) (inC (at_ 1 rfl) inN)) hst2)
        clear hst2 ST21
        go_wp2_with fail
        refine ⟨⟨⟨w5, ⟨ST22.out.blkAt 0 rfl, ST22.out.rowInt 4 rfl HKK.out⟩⟩, rfl⟩, ?_⟩
        clear this qc hc
        refine wpT_nil ?_
        simp only [lastQ, List.drop]
        go_wp2_with (refine wpList_storeW (vs := (rpDown q n).rarr xn) (ST22.out.blkAt 0 rfl) (by rfl) 77 _ _ (by rfl) (by rfl) (by rfl) rfl Try.infoRPeers (by rw [← Array.all_toList]; rfl) ?_)
        intro w6 f_ b_
        have ST23 := Lib.hid (show Sta W O (.pointer none) [] [⟨b2, (rpDown q n).rarr xn, 77⟩, ⟨b1, rpeZ, 77⟩, ⟨b0, m.rarr x, 77⟩] [] (prows (rpDown q n) xn (prows q x' (⟨some ⟨bl, ol, none⟩, l.length, lc, ints l⟩ :: prows m x [⟨aa, act.length, ac, ints act⟩]))) w6 from ST22.out.store 0 rfl f_ b_)
        clear ST22 f_ b_
        go_wp2_with fail
        go_roundw
        case rel => exact ⟨k + 1, rpDown q n, xn, by go_num, hlt, by rw [HTS.out, HN.out], GQ.out.down n, ST23.out.less (List.Sublist.refl _) (inC (at_ 0 rfl) (inC (at_ 1 rfl) (inC (at_ 4 rfl) (inC (at_ 5 rfl) (inC (at_ 6 rfl) (inC (at_ 7 rfl) inN))))))⟩
        case measure => simp [intOf]; omega
    · obtain rfl : k = l.length := by omega
      have HQ1 := Lib.hid (show q = l.foldl (rpCut act) m by rw [HQ.out, List.take_length])
      clear HQ hlt hk l1 l2
      generalize wr = wl at ST20 ⊢
      go_wp2_with fail
      go_loopw [9] (fun iv wr2 => ∃ (k2 : Nat) (q2 : Pe) (x2 : PeP), iv = .int .i64 k2 ∧ k2 ≤ act.length ∧ q2 = (act.take k2).foldl rpUp q ∧ q2.Fit ∧ Sta W O (.pointer none) [] [⟨b2, q2.rarr x2, 77⟩, ⟨b1, rpeZ, 77⟩, ⟨b0, m.rarr x, 77⟩] [] (prows q2 x2 (⟨la, l.length, lc, ints l⟩ :: prows m x [⟨aa, act.length, ac, ints act⟩])) wr2) (fun iv _ => act.length - (intOf iv).toNat)
      case atStart => exact ⟨0, q, x', rfl, Nat.zero_le _, rfl, GQ.out, ST20.out⟩
      case round =>
        obtain ⟨k2, q2, x2, rfl, hk, hq, hgq, hst⟩ := hrel
        have ST30 := Lib.hid hst
        have HQ2 := Lib.hid hq
        have GQ2 := Lib.hid hgq
        clear hst hq hgq ST20
        by_cases hlt : k2 < act.length
        · obtain ⟨bl, ol, rfl, hc⟩ := (ST30.out.rowAt 5 rfl).int k2 hlt
          have hts : (act.take (k2 + 1)).foldl rpUp q = rpUp q2 act[k2] := by rw [HQ2.out, List.take_succ_eq_append_getElem hlt, List.foldl_append]; rfl
          have HTS := Lib.hid hts
          have HKK := Lib.hid (List.getElem?_eq_getElem hlt)
          clear hts
          generalize act[k2] = n at hc HTS HKK
          go_upto_region 11 with fail
          obtain ⟨wd, hwd⟩ : ∃ x, x = wr.drew := ⟨_, rfl⟩
          have HWD := Lib.hid hwd
          have ST31 := Lib.hid (show Sta W O (.pointer none) [] [⟨b2, q2.rarr x2, 77⟩, ⟨b1, rpeZ, 77⟩, ⟨b0, m.rarr x, 77⟩] [] (prows q2 x2 (⟨la, l.length, lc, ints l⟩ :: prows m x [⟨some ⟨bl, ol, none⟩, act.length, ac, ints act⟩])) wd from hwd ▸ ST30.out.gr ((Fr.refl _ _).drew))
          clear ST30 hwd
          haveI : Nonempty (WC (fun w => w.heap[b2]? = some (.cells (q2.rarr x2) 77 (0, 0)) ∧ w.cell? ⟨bl, ol + k2, none⟩ = some (.int .i64 n))) := ⟨⟨wd, ⟨ST31.out.blkAt 0 rfl, ST31.out.rowInt 5 rfl HKK.out⟩⟩⟩
          have qc : ∀ z : WC (fun w => w.heap[b2]? = some (.cells (q2.rarr x2) 77 (0, 0)) ∧ w.cell? ⟨bl, ol + k2, none⟩ = some (.int .i64 n)), z.val.cell? ⟨bl, ol + k2, none⟩ = some (.int .i64 n) := fun z => z.ok.2
          refine wp_region_lastO 6 [5] [] [0, 1, 2, 3, 4, 5] (fun w' => ∃ z : WC (fun w => w.heap[b2]? = some (.cells (q2.rarr x2) 77 (0, 0)) ∧ w.cell? ⟨bl, ol + k2, none⟩ = some (.int .i64 n)), w' = z.val) (by kernel_rfl) (by kernel_rfl) (fun c a w d v h => by cases d <;> exact h) (fun c a w d v h => by cases d <;> exact h) (by rw [← HWD.out]; exact ⟨⟨wd, ⟨ST31.out.blkAt 0 rfl, ST31.out.rowInt 5 rfl HKK.out⟩⟩, rfl⟩) ?_
          rw [← HWD.out]
          clear HWD
          simp only [List.take]
          refine wpT_q (by simp only [List.getElem?_toArray, List.getElem?_cons_zero] <;> rfl) (by rfl) (by rfl) ?_
          refine wpQuiet_loadH (by rfl) 77 _ (by rfl) b2 0 (by rfl) (Array.toList (q2.rarr x2)) _ (fun w ⟨z, hz⟩ => hz ▸ blk_range z.ok.1) Try.underlying77 rfl Try.infoRPeers ?_
          refine wpQuiet_nil ?_
          simp only [Act.put, List.setIfInBounds_toArray, List.set_cons_succ, List.set_cons_zero]
          refine wpT_q (by simp only [List.getElem?_toArray, List.getElem?_cons_succ, List.getElem?_cons_zero] <;> rfl) (by rfl) (by rfl) ?_
          go_big_quiet_step (fail)
          refine wpQuiet_nil ?_
          refine wpT_q (by simp only [List.getElem?_toArray, List.getElem?_cons_succ, List.getElem?_cons_zero] <;> rfl) (by rfl) (by rfl) ?_
          go_big_quiet_step (fail)
          refine wpQuiet_nil ?_
          refine wpT_q (by simp only [List.getElem?_toArray, List.getElem?_cons_succ, List.getElem?_cons_zero] <;> rfl) (by rfl) (by rfl) ?_
          go_big_quiet_step (fail)
          refine wpQuiet_nil ?_
          refine wpT_q (by simp only [List.getElem?_toArray, List.getElem?_cons_succ, List.getElem?_cons_zero] <;> rfl) (by rfl) (by rfl) ?_
          go_big_quiet_step (fail)
          refine wpQuiet_nil ?_
          refine wpT_e (by simp only [List.getElem?_toArray, List.getElem?_cons_succ, List.getElem?_cons_zero] <;> rfl) (by rfl) ?_
          go_wp2_with fail
          refine (rpUp_any q2 x2 n _ _ (ST31.out.enterN (prows q2 x2 []) (inC (at_ 0 rfl) (inC (at_ 1 rfl) inN))) GQ2.out.few).mono ?_
          intro e w5 hst
          obtain ⟨xn, rfl, hst2⟩ := hst
          have ST32 := Lib.hid (show Sta W O (.pointer none) [] [⟨b2, q2.rarr x2, 77⟩, ⟨b1, rpeZ, 77⟩, ⟨b0, m.rarr x, 77⟩] [] (prows (rpUp q2 n) xn (prows q2 x2 (⟨la, l.length, lc, ints l⟩ :: prows m x [⟨some ⟨bl, ol, none⟩, act.length, ac, ints act⟩]))) w5 from ST31.out.leaveN (inC (at_ 0 rfl) (inC (at_ 1 rfl) inN)) hst2)
          clear hst2 ST31
          go_wp2_with fail
          refine ⟨⟨⟨w5, ⟨ST32.out.blkAt 0 rfl, ST32.out.rowInt 7 rfl HKK.out⟩⟩, rfl⟩, ?_⟩
          clear this qc hc
          refine wpT_nil ?_
          simp only [lastQ, List.drop]
          go_wp2_with (refine wpList_storeW (vs := (rpUp q2 n).rarr xn) (ST32.out.blkAt 0 rfl) (by rfl) 77 _ _ (by rfl) (by rfl) (by rfl) rfl Try.infoRPeers (by rw [← Array.all_toList]; rfl) ?_)
          intro w6 f_ b_
          have ST33 := Lib.hid (show Sta W O (.pointer none) [] [⟨b2, (rpUp q2 n).rarr xn, 77⟩, ⟨b1, rpeZ, 77⟩, ⟨b0, m.rarr x, 77⟩] [] (prows (rpUp q2 n) xn (prows q2 x2 (⟨la, l.length, lc, ints l⟩ :: prows m x [⟨some ⟨bl, ol, none⟩, act.length, ac, ints act⟩]))) w6 from ST32.out.store 0 rfl f_ b_)
          clear ST32 f_ b_
          go_wp2_with fail
          go_roundw
          case rel => exact ⟨k2 + 1, rpUp q2 n, xn, by go_num, hlt, HTS.out.symm, GQ2.out.up n, ST33.out.less (List.Sublist.refl _) (inC (at_ 0 rfl) (inC (at_ 1 rfl) (inC (at_ 4 rfl) (inC (at_ 5 rfl) (inC (at_ 6 rfl) (inC (at_ 7 rfl) inN))))))⟩
          case measure => simp [intOf]; omega
        · obtain rfl : k2 = act.length := by omega
          have HQ3 := Lib.hid (show qm = q2 by rw [HQM.out, HQ2.out, List.take_length, HQ1.out, HL.out]; rfl)
          clear HQ2 HQ1 HL HQM hlt hk l3 l4 CC GQ
          obtain rfl := HQ3.out
          clear HQ3
          generalize wr = wl2 at ST30 ⊢
          go_upto_region 13 with fail
          refine wp_region_lit ?_
          refine wpList_load_mid (by rfl) 77 _ (by rfl) b2 0 (by rfl) (Array.toList (qm.rarr x2)) _ (blk_range (ST30.out.blkAt 0 rfl)) Try.underlying77 rfl Try.infoRPeers ?_
          go_wp2_with fail
          refine (rpAll_any qm x2 _ _ (ST30.out.enterN (prows qm x2 []) (inC (at_ 0 rfl) (inC (at_ 1 rfl) inN))) GQ2.out.few).mono ?_
          intro e w3 hst
          obtain ⟨lb, lc2, rfl, hst2⟩ := ST30.out.callNew hst
          have ST31 := Lib.hid (show Sta W O (.pointer none) [] [⟨b2, qm.rarr x2, 77⟩, ⟨b1, rpeZ, 77⟩, ⟨b0, m.rarr x, 77⟩] [] (⟨lb, (peAll qm).length, lc2, ints (peAll qm)⟩ :: prows qm x2 (⟨la, l.length, lc, ints l⟩ :: prows m x [⟨aa, act.length, ac, ints act⟩])) w3 from hst2)
          clear hst hst2 ST30
          have l1 := (ST31.out.rowAt 0 rfl).le
          have l2 := (ST31.out.rowAt 0 rfl).max
          have lall : (peAll qm).length ≤ 64 := by rw [all_len]; exact GQ2.out
          obtain ⟨l2_, hl⟩ : ∃ l, l = peAll qm := ⟨_, rfl⟩
          obtain ⟨ln, hln⟩ : ∃ l, l = peNew m qm := ⟨_, rfl⟩
          rw [← hl] at l1 lall
          have HLN := Lib.hid (show ln = kept (fun n => peHas m n) l2_ by rw [hln, hl]; rfl)
          have ST32 := Lib.hid (show Sta W O (.pointer none) [] [⟨b2, qm.rarr x2, 77⟩, ⟨b1, rpeZ, 77⟩, ⟨b0, m.rarr x, 77⟩] [] (⟨lb, l2_.length, lc2, ints l2_⟩ :: prows qm x2 (⟨la, l.length, lc, ints l⟩ :: prows m x [⟨aa, act.length, ac, ints act⟩])) w3 from hl ▸ ST31.out)
          rw [← hl, ← hln]
          clear hl ST31
          have HLN2 := Lib.hid hln
          clear hln
          have ST33 := Lib.hid (show Sta W O (.pointer none) [] [⟨b2, qm.rarr x2, 77⟩, ⟨b1, rpeZ, 77⟩, ⟨b0, m.rarr x, 77⟩] [⟨3, 1, .slice none 0 0, 0, []⟩] (⟨lb, l2_.length, lc2, ints l2_⟩ :: prows qm x2 (⟨la, l.length, lc, ints l⟩ :: prows m x [⟨aa, act.length, ac, ints act⟩])) w3 from ST32.out.ownNil 3 1)
          clear ST32
          go_wp2_with fail
          go_loopw [10, 11] (fun ov iv wr3 => ∃ (k3 : Nat), iv = .int .i64 k3 ∧ k3 ≤ l2_.length ∧ Sta W O (.pointer none) [] [⟨b2, qm.rarr x2, 77⟩, ⟨b1, rpeZ, 77⟩, ⟨b0, m.rarr x, 77⟩] [⟨3, 1, ov, (kept (fun n => peHas m n) (l2_.take k3)).length, ints (kept (fun n => peHas m n) (l2_.take k3))⟩] (⟨lb, l2_.length, lc2, ints l2_⟩ :: prows qm x2 (⟨la, l.length, lc, ints l⟩ :: prows m x [⟨aa, act.length, ac, ints act⟩])) wr3) (fun _ iv _ => l2_.length - (intOf iv).toNat)
          case atStart => exact ⟨0, rfl, Nat.zero_le _, ST33.out⟩
          case round =>
            obtain ⟨k3, rfl, hk, hst⟩ := hrel
            have ST40 := Lib.hid hst
            clear hst ST33
            by_cases hlt : k3 < l2_.length
            · obtain ⟨bl, ol, rfl, hc⟩ := (ST40.out.rowAt 0 rfl).int k3 hlt
              have hks := kept_snoc (fun n => peHas m n) l2_ k3 hlt
              have hKl : (kept (fun n => peHas m n) (l2_.take k3)).length ≤ 64 := Nat.le_trans (List.length_filter_le _ _) (by simp; omega)
              have HKS := Lib.hid hks
              have HKL := Lib.hid hKl
              clear hks hKl
              generalize kept (fun n => peHas m n) (l2_.take k3) = K3 at *
              generalize l2_[k3] = n at hc HKS
              have HC := Lib.hid hc
              clear hc
              have CI := Lib.hid (fun w (f : Gr wr w) => rpIs_any m x n w ((ST40.out.gr f).rowAt 4 rfl) ((ST40.out.gr f).rowAt 5 rfl))
              obtain ⟨c, hcc⟩ : ∃ c, c = peHas m n := ⟨_, rfl⟩
              rw [← hcc] at CI
              have HCC := Lib.hid hcc
              clear hcc
              go_upto_region 17 with fail
              haveI : Nonempty (WC (Gr wr)) := ⟨⟨wr, Fr.refl _ _⟩⟩
              have z0 : ∀ z2 : WC (Gr wr), z2.val.cell? ⟨b0, 0, none⟩ = some (.slice x.ea m.e.length x.ec) := fun z2 => z2.ok.cell (ST40.out.cell 2 0 rfl rfl) (fun h => h)
              have z1 : ∀ z2 : WC (Gr wr), z2.val.cell? ⟨b0, 1, none⟩ = some (.slice x.za m.z.length x.zc) := fun z2 => z2.ok.cell (ST40.out.cell 2 1 rfl rfl) (fun h => h)
              have zc : ∀ z2 : WC (Gr wr), z2.val.cell? ⟨bl, ol + k3, none⟩ = some (.int .i64 n) := fun z2 => z2.ok.cell (HC.out) (fun h => h)
              refine wp_region_plan [5] (Plan.seq [0, 1, 2, 3, 4, 5, 6] .done) (fun w' => ∃ z' : WC (Gr wr), w' = z'.val) (by kernel_rfl) (by kernel_rfl) (fun c a w d v h => by cases d <;> exact h) (fun c a w d v h => by cases d <;> exact h) ⟨⟨wr.drew, (Fr.refl _ _).drew⟩, rfl⟩ ?_
              simp only [Plan.seq, List.foldr]
              refine wpV_q (by simp only [List.getElem?_toArray, List.getElem?_cons_zero] <;> rfl) (by rfl) (by rfl) ?_
              go_big_quiet_step (fail)
              refine wpQuiet_nil ?_
              repeat (refine wpV_q (by simp only [List.getElem?_toArray, List.getElem?_cons_succ, List.getElem?_cons_zero] <;> rfl) (by rfl) (by rfl) ?_; go_big_quiet_step (fail); refine wpQuiet_nil ?_)
              refine wpV_e (by simp only [List.getElem?_toArray, List.getElem?_cons_succ, List.getElem?_cons_zero] <;> rfl) (by rfl) ?_
              go_wp2_with fail
              refine (CI.out _ (show Gr wr wr.drew from (Fr.refl _ _).drew)).mono ?_
              rintro e w7 ⟨rfl, f2⟩
              have Fw7 : Gr wr w7 := Gr.trans (show Gr wr wr.drew from (Fr.refl _ _).drew) f2
              go_wp2_with fail
              refine ⟨⟨⟨w7, Fw7⟩, rfl⟩, ?_⟩
              repeat (refine wpV_q (by simp only [List.getElem?_toArray, List.getElem?_cons_succ, List.getElem?_cons_zero] <;> rfl) (by rfl) (by rfl) ?_; go_big_quiet_step (fail); refine wpQuiet_nil ?_)
              clear f2
              refine wpV_done ?_
              have FZ := Lib.hid Fw7
              clear this z0 z1 zc
              cases c
              rotate_left
              · have HN : Hid (kept (fun n => peHas m n) (l2_.take (k3 + 1)) = K3) := Lib.hid (by rw [HKS.out]; simp [← HCC.out])
                clear HKS HCC
                have ST41 := Lib.hid (show Sta W O (.pointer none) [] [⟨b2, qm.rarr x2, 77⟩, ⟨b1, rpeZ, 77⟩, ⟨b0, m.rarr x, 77⟩] [⟨3, 1, _, K3.length, ints K3⟩] (⟨some ⟨bl, ol, none⟩, l2_.length, lc2, ints l2_⟩ :: prows qm x2 (⟨la, l.length, lc, ints l⟩ :: prows m x [⟨aa, act.length, ac, ints act⟩])) w7 from ST40.out.gr FZ.out)
                clear ST40 FZ CI HC Fw7
                go_wp2_with fail
                go_roundw
                case rel => exact ⟨k3 + 1, by go_num, hlt, by rw [HN.out]; exact ST41.out⟩
                case measure => simp [intOf]; omega
              · have HN : Hid (kept (fun n => peHas m n) (l2_.take (k3 + 1)) = K3 ++ [n]) := Lib.hid (by rw [HKS.out]; simp [← HCC.out])
                clear HKS HCC
                have ST41 := Lib.hid (show Sta W O (.pointer none) [] [⟨b2, qm.rarr x2, 77⟩, ⟨b1, rpeZ, 77⟩, ⟨b0, m.rarr x, 77⟩] [⟨3, 1, _, K3.length, ints K3⟩] (⟨some ⟨bl, ol, none⟩, l2_.length, lc2, ints l2_⟩ :: prows qm x2 (⟨la, l.length, lc, ints l⟩ :: prows m x [⟨aa, act.length, ac, ints act⟩])) w7 from ST40.out.gr FZ.out)
                have HC7 : w7.cell? ⟨bl, ol + k3, none⟩ = some (.int .i64 n) := FZ.out.cell HC.out (fun h => h)
                clear ST40 FZ CI HC Fw7
                go_wp2_with (at_builtin; obtain ⟨w8, hw_⟩ : ∃ x, x = w7.alloc (.cells #[.int .i64 n] 3) := ⟨_, rfl⟩; obtain ⟨e1, he_⟩ : ∃ b, b = w7.heap.size := ⟨_, rfl⟩; rw [← hw_, ← he_]; have ST42 := Lib.hid (show Sta W O (.pointer none) [] [⟨b2, qm.rarr x2, 77⟩, ⟨b1, rpeZ, 77⟩, ⟨b0, m.rarr x, 77⟩] [⟨3, 1, .slice (some ⟨e1, 0, none⟩) 1 1, 1, [.int .i64 n]⟩, ⟨3, 1, _, K3.length, ints K3⟩] (⟨some ⟨bl, ol, none⟩, l2_.length, lc2, ints l2_⟩ :: prows qm x2 (⟨la, l.length, lc, ints l⟩ :: prows m x [⟨aa, act.length, ac, ints act⟩])) w8 from hw_ ▸ ST41.out.ownNew ((Fr.refl _ _).alloc _) (xs := [.int .i64 n]) (n := 1) (by rw [heap_alloc_if, if_pos he_]) (Nat.le_of_eq he_.symm) rfl (by decide)); clear ST41 hw_ he_ HC7; refine wpList_growT (by rfl) _ _ 25 3 1 8 (.int .i64 0) Try.underlying25 Try.infoint rfl (by decide) (by decide) (by rfl) ST42.out 1 rfl (by rfl) (by rfl) (own_add (ST42.out.ownAt 0 rfl)) (by rfl) (by rfl) (by have := HKL.out; omega) ?_)
                intro ov2 w9 hst
                have ST43 := Lib.hid (show Sta W O (.pointer none) [] [⟨b2, qm.rarr x2, 77⟩, ⟨b1, rpeZ, 77⟩, ⟨b0, m.rarr x, 77⟩] [⟨3, 1, .slice (some ⟨e1, 0, none⟩) 1 1, 1, [.int .i64 n]⟩, ⟨3, 1, ov2, K3.length + 1, ints K3 ++ [.int .i64 n]⟩] (⟨some ⟨bl, ol, none⟩, l2_.length, lc2, ints l2_⟩ :: prows qm x2 (⟨la, l.length, lc, ints l⟩ :: prows m x [⟨aa, act.length, ac, ints act⟩])) w9 from hst)
                clear hst ST42
                go_wp2_with fail
                go_roundw
                case rel => exact ⟨k3 + 1, by go_num, hlt, by rw [HN.out, List.length_append]; unfold ints; rw [List.map_append]; exact ST43.out.less (List.Sublist.cons _ (List.Sublist.refl _)) (fun _ h => h)⟩
                case measure => simp [intOf]; omega
            · obtain rfl : k3 = l2_.length := by omega
              have hfin : kept (fun n => peHas m n) (l2_.take l2_.length) = ln := by rw [List.take_length, HLN.out]
              have HFIN := Lib.hid hfin
              clear hfin hlt hk HLN
              have ST41 := Lib.hid (show Sta W O (.pointer none) [] [⟨b2, qm.rarr x2, 77⟩, ⟨b1, rpeZ, 77⟩, ⟨b0, m.rarr x, 77⟩] [⟨3, 1, _, ln.length, ints ln⟩] (⟨lb, l2_.length, lc2, ints l2_⟩ :: prows qm x2 (⟨la, l.length, lc, ints l⟩ :: prows m x [⟨aa, act.length, ac, ints act⟩])) wr from HFIN.out ▸ ST40.out)
              clear ST40 HFIN
              obtain ⟨da, dc, rfl, hst⟩ := ST41.out.asRow 0 rfl
              have ST42 := Lib.hid (show Sta W O (.pointer none) [] [⟨b2, qm.rarr x2, 77⟩, ⟨b1, rpeZ, 77⟩, ⟨b0, m.rarr x, 77⟩] [] (⟨da, ln.length, dc, ints ln⟩ :: ⟨lb, l2_.length, lc2, ints l2_⟩ :: prows qm x2 (⟨la, l.length, lc, ints l⟩ :: prows m x [⟨aa, act.length, ac, ints act⟩])) wr from hst)
              clear hst ST41
              generalize wr = wl3 at ST42 ⊢
              go_upto_region 19 with fail
              refine wp_region_lit ?_
              refine wpList_load_mid (by rfl) 77 _ (by rfl) b2 0 (by rfl) (Array.toList (qm.rarr x2)) _ (blk_range (ST42.out.blkAt 0 rfl)) Try.underlying77 rfl Try.infoRPeers ?_
              go_wp2_with (refine wpList_storeW (vs := qm.rarr x2) (ST42.out.blkAt 1 rfl) (by rfl) 77 _ _ (by rfl) (by rfl) (by rfl) rfl Try.infoRPeers (by rw [← Array.all_toList]; rfl) ?_)
              intro w9 f_ b_
              have ST43 := Lib.hid (show Sta W O (.pointer none) [] [⟨b2, qm.rarr x2, 77⟩, ⟨b1, qm.rarr x2, 77⟩, ⟨b0, m.rarr x, 77⟩] [] (⟨da, ln.length, dc, ints ln⟩ :: ⟨lb, l2_.length, lc2, ints l2_⟩ :: prows qm x2 (⟨la, l.length, lc, ints l⟩ :: prows m x [⟨aa, act.length, ac, ints act⟩])) w9 from ST42.out.store 1 rfl f_ b_)
              clear ST42 f_ b_
              have LL : Hid ((loadVar 77 ⟨b1, 0, none⟩).run Try.prog w9 = .ok (.agg (qm.rarr x2)) w9) := Lib.hid (run_loadVar_mid w9 b1 0 77 (Array.toList (qm.rarr x2)) _ (blk_range (ST43.out.blkAt 1 rfl)) Try.underlying77 rfl Try.infoRPeers)
              have LA : Hid ((asAddr (.pointer (some ⟨b1, 0, none⟩))).run Try.prog w9 = .ok ⟨b1, 0, none⟩ w9) := Lib.hid (by simp [go_sem])
              go_wp2_with fail
              refine bodyPost_ret (v := .tuple #[.agg (qm.rarr x2), .slice da ln.length dc]) (by simp [results, Try.results38, Sem.run_bind, Result.andThen_ok, LL.out, LA.out]) rfl ?_
              rw [← HLN2.out]
              exact ⟨x2, da, dc, rfl, ST43.out.out (List.Sublist.refl _) (inC (at_ 2 rfl) (inC (at_ 3 rfl) (inC (at_ 0 rfl) inN)))⟩
end Go.Proofs.Ytelepohdfcjnfaa
