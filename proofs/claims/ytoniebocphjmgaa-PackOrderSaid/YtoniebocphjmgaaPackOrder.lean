/-
  The walk of PackOrder.
-/
import Derived.Test.YtoniebocphjmgaaPackSpeaks
namespace Go.Proofs.Ytoniebocphjmgaa
open Go.RowKit Go.Proofs

set_option maxHeartbeats 1000000 in
set_option maxRecDepth 100000 in
theorem order1_any (B : Nat) (S : Nat → Prop) (b qa qn : Nat) (x : Int) (n : Int) (w : World) (h : WrAt B S w b (.pointer none) (.slice none 0 0) []) (ha : w.cell? ⟨qa, 0, none⟩ = some (.int .u64 x)) (hn : w.cell? ⟨qn, 0, none⟩ = some (.int .i64 n))
    (h0 : 0 ≤ x) (h1 : x < 18446744073709551616) (hok : NumOk x.toNat n) :
    Calls Try.prog 26 #[.pointer (some ⟨b, 0, none⟩), .pointer (some ⟨qa, 0, none⟩), .pointer (some ⟨qn, 0, none⟩)] w fun e w' => Fr S w w' ∧ ∃ y, WEnds B S b w' y e ∧ y = .ok (bigEnd n.toNat x.toNat) := by
  have H := Lib.hid h; clear h
  go_enter Try.func26, Try.ntmps26
  go_wp2_with fail
  refine (writerNum_any B S w b _ _ _ x n H.out h0 h1 (by simp) hok).mono ?_
  rintro e w1 ⟨rfl, ⟨p1, v1, h1⟩, hf1⟩
  go_wp2_with fail
  go_end0
  exact ⟨hf1, _, .ok _ p1 v1 h1, rfl⟩

set_option maxHeartbeats 1000000 in
set_option maxRecDepth 100000 in
theorem order2_any (B : Nat) (S : Nat → Prop) (b qa qn : Nat) (x : Int) (n : Int) (w : World) (h : WrAt B S w b (.pointer none) (.slice none 0 0) []) (ha : w.cell? ⟨qa, 0, none⟩ = some (.int .u64 x)) (hn : w.cell? ⟨qn, 0, none⟩ = some (.int .i64 n))
    (h0 : 0 ≤ x) (h1 : x < 18446744073709551616) (hok : NumOk x.toNat n) :
    Calls Try.prog 28 #[.pointer (some ⟨b, 0, none⟩), .pointer (some ⟨qa, 0, none⟩), .pointer (some ⟨qn, 0, none⟩)] w fun e w' => Fr S w w' ∧ ∃ y, WEnds B S b w' y e ∧ y = .ok (bigEnd n.toNat x.toNat) := by
  have H := Lib.hid h; clear h
  go_enter Try.func28, Try.ntmps28
  go_wp2_with fail
  refine (writerNum_any B S w b _ _ _ x n H.out h0 h1 (by simp) hok).mono ?_
  rintro e w1 ⟨rfl, ⟨p1, v1, h1⟩, hf1⟩
  go_wp2_with fail
  go_end0
  exact ⟨hf1, _, .ok _ p1 v1 h1, rfl⟩

/-- Write of one number that lies in a variable -/
theorem order_write (F : FuncId) (qa qn : Nat) (x n : Int) (W : World) (hent : ∀ a w, (callFunc F (#[a] ++ #[.pointer (some ⟨qa, 0, none⟩), .pointer (some ⟨qn, 0, none⟩)])).run Try.prog w = .ok (.enter F (#[a] ++ #[.pointer (some ⟨qa, 0, none⟩), .pointer (some ⟨qn, 0, none⟩)])) w)
    (ha : W.cell? ⟨qa, 0, none⟩ = some (.int .u64 x)) (hn : W.cell? ⟨qn, 0, none⟩ = some (.int .i64 n))
    (hc : ∀ (B : Nat) (S : Nat → Prop) (b : Nat) (w : World), WrAt B S w b (.pointer none) (.slice none 0 0) [] → w.cell? ⟨qa, 0, none⟩ = some (.int .u64 x) → w.cell? ⟨qn, 0, none⟩ = some (.int .i64 n) →
      Calls Try.prog F #[.pointer (some ⟨b, 0, none⟩), .pointer (some ⟨qa, 0, none⟩), .pointer (some ⟨qn, 0, none⟩)] w fun e w' => Fr S w w' ∧ ∃ y, WEnds B S b w' y e ∧ y = .ok (bigEnd n.toNat x.toNat)) :
    Calls Try.prog 25 #[.func (.func F) #[] #[.pointer (some ⟨qa, 0, none⟩), .pointer (some ⟨qn, 0, none⟩)]] W fun e w' => e = .returned (.tuple #[.string ⟨(bigEnd n.toNat x.toNat).toArray⟩, .int .i64 0]) ∧ Below W.heap.size W w' := by
  refine (packWrite_any F _ W (fun _ => False) (fun y _ => y = .ok (bigEnd n.toNat x.toNat)) hent (fun k h => h.elim)
    (fun w hfw h => (hc _ _ _ w h (hfw.cell ha (fun h => h)) (hfw.cell hn (fun h => h))).mono (by rintro e w' ⟨hf, y, hy, hg⟩; exact ⟨hf.mono (fun k _ hk => .inl hk), y, hy, hg⟩))).mono ?_
  rintro e w1 ⟨w0, y, rfl, he, _, _, hf1⟩
  exact ⟨he, Fr.below (Below.refl _ W) hf1 (Nat.le_refl _) (by intro k hk; rcases hk with hk | hk; exact hk; exact hk.elim)⟩

set_option maxHeartbeats 1000000 in
set_option maxRecDepth 100000 in
theorem packOrder_walk (a b : Int) (size : Int) (W : World) (ha0 : 0 ≤ a) (ha1 : a < 18446744073709551616) (hb0 : 0 ≤ b) (hb1 : b < 18446744073709551616) (hs0 : 0 ≤ size) (hs1 : size < 256) :
    Calls Try.prog 7 #[.int .u64 a, .int .u64 b, .int .u8 size] W fun e w' => e = .returned (.bool true) ∧ Below W.heap.size W w' := by
  have hmf : ∀ (fn : Fn) (first cap : Array Value) (w : World), (Instr.makeFunc fn first cap).run Try.prog w = .ok (.func fn first cap) w := fun _ _ _ _ => rfl
  obtain ⟨w1, hw1, hf1, hz1, b0, b1⟩ : ∃ w1 : World, w1 = (W.alloc (.cells #[.int .u64 a] 42)).alloc (.cells #[.int .u64 b] 42) ∧ Fr (fun _ => False) W w1 ∧ w1.heap.size = W.heap.size + 2 ∧
      w1.heap[W.heap.size]? = some (.cells #[.int .u64 a] 42) ∧ w1.heap[W.heap.size + 1]? = some (.cells #[.int .u64 b] 42) := by
    refine ⟨_, rfl, ((Fr.refl _ W).alloc _).alloc _, by simp, ?_, ?_⟩
    · rw [heap_alloc_if, if_neg (by simp), heap_alloc_if, if_pos rfl]
    · rw [heap_alloc_if, if_pos (by simp)]
  have c0 : w1.cell? ⟨W.heap.size, 0, none⟩ = some (.int .u64 a) := by rw [World.cell?, b0]; rfl
  have c1 : w1.cell? ⟨W.heap.size + 1, 0, none⟩ = some (.int .u64 b) := by rw [World.cell?, b1]; rfl
  have z0 : w1.frozen? ⟨W.heap.size, 0, none⟩ = false := by rw [World.frozen?, b0]; rfl
  have z1 : w1.frozen? ⟨W.heap.size + 1, 0, none⟩ = false := by rw [World.frozen?, b1]; rfl
  have HB1 : Hid (Below W.heap.size W w1) := Fr.below (Below.refl _ W) hf1 (Nat.le_refl _) (fun k hk => hk.elim)
  have h7 : bits .and .u8 size 7 = size % 8 := u8_and7 size hs0 hs1
  obtain ⟨m, hm, hm0, hm7⟩ : ∃ m : Int, size % 8 = m ∧ 0 ≤ m ∧ m ≤ 7 := ⟨_, rfl, by omega, by omega⟩
  rw [hm] at h7
  clear hm b0 b1 hf1
  go_enter Try.func7, Try.ntmps7
  go_wp2_with fail
  rw [← hw1]
  refine (speaks01 w1).mono ?_
  rintro e w2 ⟨rfl, hb2⟩
  have hs2 := hb2.size
  have d0 := (hb2.cell (p := ⟨W.heap.size, 0, none⟩) (by simp [hz1])).trans c0
  have d1 := (hb2.cell (p := ⟨W.heap.size + 1, 0, none⟩) (by simp [hz1])).trans c1
  clear c0 c1
  by_cases h8 : m = 7
  · subst h8
    go_wp2_with fail
    obtain ⟨wq, hwq⟩ : ∃ wq, wq = w2.alloc (.cells #[.int .i64 8] 3) := ⟨_, rfl⟩
    rw [← hwq]
    have HA : wq.cell? ⟨W.heap.size, 0, none⟩ = some (.int .u64 a) := by rw [hwq]; exact Lib.cell?_alloc_some _ d0
    have HBB : wq.cell? ⟨W.heap.size + 1, 0, none⟩ = some (.int .u64 b) := by rw [hwq]; exact Lib.cell?_alloc_some _ d1
    have HN : wq.cell? ⟨w2.heap.size, 0, none⟩ = some (.int .i64 8) := by rw [hwq, World.cell?_alloc_at _ _ _ _ rfl]; rfl
    have hBW : Below W.heap.size W wq := by rw [hwq]; exact (HB1.out.trans (hb2.mono (by omega))).alloc (by omega) _
    have hxa : 0 ≤ a ∧ a < 18446744073709551616 := ⟨ha0, ha1⟩
    have hxb : 0 ≤ b ∧ b < 18446744073709551616 := ⟨hb0, hb1⟩
    have hoka : NumOk a.toNat 8 := ⟨by omega, by omega, by simp; omega⟩
    have hokb : NumOk b.toNat 8 := ⟨by omega, by omega, by simp; omega⟩
    clear hwq d0 d1 z0 z1 hb2 HB1
    generalize a = xa at *
    generalize b = xb at *
    have hws := hBW.size
    refine (order_write 26 W.heap.size w2.heap.size xa 8 wq (fun a w => enters_fn Try.func26 (by kernel_rfl) rfl _ w) HA HN (fun B S b w h h1 h2 => order1_any B S b _ _ xa 8 w h h1 h2 hxa.1 hxa.2 hoka)).mono ?_
    rintro e w5 ⟨rfl, hb5⟩
    have hs5 := hb5.size
    have HA5 := (hb5.cell (lt_of_cell HA)).trans HA
    have HB5 := (hb5.cell (lt_of_cell HBB)).trans HBB
    have HN5 := (hb5.cell (lt_of_cell HN)).trans HN
    go_wp2_with fail
    refine (order_write 28 (W.heap.size + 1) w2.heap.size xb 8 w5 (fun a w => enters_fn Try.func28 (by kernel_rfl) rfl _ w) HB5 HN5 (fun B S b w h h1 h2 => order2_any B S b _ _ xb 8 w h h1 h2 hxb.1 hxb.2 hokb)).mono ?_
    rintro e w6 ⟨rfl, hb6⟩
    have HA6 := (hb6.cell (lt_of_cell HA5)).trans HA5
    have HB6 := (hb6.cell (lt_of_cell HB5)).trans HB5
    have HN6 := (hb6.cell (lt_of_cell HN5)).trans HN5
    have HW := Lib.hid ((hBW.trans (hb5.mono hws)).trans (hb6.mono (by omega)))
    have l1 : (ByteArray.mk (bigEnd (8 : Int).toNat xa.toNat).toArray).size = (8 : Int).toNat := by simp [ByteArray.size, bigEnd_length]
    have l2 : (ByteArray.mk (bigEnd (8 : Int).toNat xb.toNat).toArray).size = (8 : Int).toNat := by simp [ByteArray.size, bigEnd_length]
    have o1 := order_less (8 : Int).toNat xa xb hxa.1 hxb.1 hoka.2.2 hokb.2.2
    have o2 := order_same (8 : Int).toNat xa xb hxa.1 hxb.1 hoka.2.2 hokb.2.2
    have O2 := Lib.hid o2; clear o2
    clear HA HBB HN HA5 HB5 HN5 hb5 hb6
    go_wp2_with fail
    go_ret
    refine ⟨?_, HW.out⟩
    show Ending.returned (.bool ((bigEnd (8 : Int).toNat xa.toNat == bigEnd (8 : Int).toNat xb.toNat) == (xa == xb))) = _
    rw [O2.out]
    simp
  · have h8' : m < 7 := by omega
    clear h8
    have e0 : (w2.alloc (.cells #[.int .i64 (1 + m)] 3)).cell? ⟨W.heap.size, 0, none⟩ = some (.int .u64 a) := Lib.cell?_alloc_some _ d0
    have e1 : (w2.alloc (.cells #[.int .i64 (1 + m)] 3)).cell? ⟨W.heap.size + 1, 0, none⟩ = some (.int .u64 b) := Lib.cell?_alloc_some _ d1
    have e2 : (w2.alloc (.cells #[.int .i64 (1 + m)] 3)).cell? ⟨w2.heap.size, 0, none⟩ = some (.int .i64 (1 + m)) := by rw [World.cell?_alloc_at _ _ _ _ rfl]; rfl
    have x0 : (w2.alloc (.cells #[.int .i64 (1 + m)] 3)).frozen? ⟨W.heap.size, 0, none⟩ = false := by
      rw [World.frozen?_of_block (w := w2) (Below.heap_alloc _ _ _ (lt_of_cell d0)), World.frozen?_of_block (w := w1) (hb2.block _ (by simp; omega))]; exact z0
    have x1 : (w2.alloc (.cells #[.int .i64 (1 + m)] 3)).frozen? ⟨W.heap.size + 1, 0, none⟩ = false := by
      rw [World.frozen?_of_block (w := w2) (Below.heap_alloc _ _ _ (lt_of_cell d1)), World.frozen?_of_block (w := w1) (hb2.block _ (by simp; omega))]; exact z1
    clear z0 z1
    go_wp2_with fail
    generalize hw3 : w2.alloc (.cells #[.int .i64 (1 + m)] 3) = w3 at *
    have hlt2 : w1.heap.size ≤ w2.heap.size := hs2
    rw [hz1] at hlt2
    have ei : (8 * (1 + m)).toNat = 8 * (1 + m).toNat := by omega
    have ma := mask_u64 a (8 * (1 + m).toNat) ha0 ha1 (by omega)
    have mb := mask_u64 b (8 * (1 + m).toNat) hb0 hb1 (by omega)
    have hoka : NumOk (a % 2 ^ (8 * (1 + m).toNat)).toNat (1 + m) := ⟨by omega, by omega, fits_mod a _⟩
    have hokb : NumOk (b % 2 ^ (8 * (1 + m).toNat)).toNat (1 + m) := ⟨by omega, by omega, fits_mod b _⟩
    have MA := Lib.hid ma; clear ma
    have MB := Lib.hid mb; clear mb
    have hp0 : (0 : Int) < 2 ^ (8 * (1 + m).toNat) := by
      have := Nat.two_pow_pos (8 * (1 + m).toNat)
      exact_mod_cast this
    have hp1 : (2 : Int) ^ (8 * (1 + m).toNat) ≤ 2 ^ 63 := by
      have := Nat.pow_le_pow_right (n := 2) (by decide) (show 8 * (1 + m).toNat ≤ 63 by omega)
      exact_mod_cast this
    have hxa : 0 ≤ a % 2 ^ (8 * (1 + m).toNat) ∧ a % 2 ^ (8 * (1 + m).toNat) < 18446744073709551616 := ⟨Int.emod_nonneg _ (by omega), by have := Int.emod_lt_of_pos a hp0; omega⟩
    have hxb : 0 ≤ b % 2 ^ (8 * (1 + m).toNat) ∧ b % 2 ^ (8 * (1 + m).toNat) < 18446744073709551616 := ⟨Int.emod_nonneg _ (by omega), by have := Int.emod_lt_of_pos b hp0; omega⟩
    clear hp0 hp1
    have HH := Lib.hid (And.intro (And.intro hxa hxb) (And.intro hoka hokb))
    clear hxa hxb hoka hokb
    go_region
    rw [MA.out, MB.out]
    obtain ⟨⟨hxa, hxb⟩, hoka, hokb⟩ := HH.out
    clear HH MA MB ei
    generalize a % 2 ^ (8 * (1 + m).toNat) = xa at *
    generalize b % 2 ^ (8 * (1 + m).toNat) = xb at *
    obtain ⟨wq, hwq⟩ : ∃ wq, wq = ((w3.setCell ⟨W.heap.size, 0, none⟩ (.int .u64 xa)).setCell ⟨W.heap.size + 1, 0, none⟩ (.int .u64 xb)).drew := ⟨_, rfl⟩
    rw [← hwq]
    have HA : wq.cell? ⟨W.heap.size, 0, none⟩ = some (.int .u64 xa) := by
      rw [hwq, World.cell?_drew, World.cell?_setCell_other _ _ _ _ (by simp)]; exact World.cell?_setCell_same _ _ _ e0
    have HBB : wq.cell? ⟨W.heap.size + 1, 0, none⟩ = some (.int .u64 xb) := by
      rw [hwq, World.cell?_drew]; exact World.cell?_setCell_same _ _ _ (by rw [World.cell?_setCell_other _ _ _ _ (by simp)]; exact e1)
    have HN : wq.cell? ⟨w2.heap.size, 0, none⟩ = some (.int .i64 (1 + m)) := by
      rw [hwq, World.cell?_drew, World.cell?_setCell_other _ _ _ _ (by simp), World.cell?_setCell_other _ _ _ _ (by simp)]; exact e2
    have hBW : Below W.heap.size W wq := by
      rw [hwq, ← hw3]
      exact ((((HB1.out.trans (hb2.mono (by omega))).alloc (by omega) _).setCell (p := ⟨W.heap.size, 0, none⟩) (by simp) _).setCell (p := ⟨W.heap.size + 1, 0, none⟩) (by simp) _).drew
    clear hwq d0 d1 e0 e1 e2 x0 x1 hb2 HB1 hw3
    go_wp2_with fail
    have hws := hBW.size
    refine (order_write 26 W.heap.size w2.heap.size xa (1 + m) wq (fun a w => enters_fn Try.func26 (by kernel_rfl) rfl _ w) HA HN (fun B S b w h h1 h2 => order1_any B S b _ _ xa (1 + m) w h h1 h2 hxa.1 hxa.2 hoka)).mono ?_
    rintro e w5 ⟨rfl, hb5⟩
    have hs5 := hb5.size
    have HA5 := (hb5.cell (lt_of_cell HA)).trans HA
    have HB5 := (hb5.cell (lt_of_cell HBB)).trans HBB
    have HN5 := (hb5.cell (lt_of_cell HN)).trans HN
    go_wp2_with fail
    refine (order_write 28 (W.heap.size + 1) w2.heap.size xb (1 + m) w5 (fun a w => enters_fn Try.func28 (by kernel_rfl) rfl _ w) HB5 HN5 (fun B S b w h h1 h2 => order2_any B S b _ _ xb (1 + m) w h h1 h2 hxb.1 hxb.2 hokb)).mono ?_
    rintro e w6 ⟨rfl, hb6⟩
    have HA6 := (hb6.cell (lt_of_cell HA5)).trans HA5
    have HB6 := (hb6.cell (lt_of_cell HB5)).trans HB5
    have HN6 := (hb6.cell (lt_of_cell HN5)).trans HN5
    have HW := Lib.hid ((hBW.trans (hb5.mono hws)).trans (hb6.mono (by omega)))
    have l1 : (ByteArray.mk (bigEnd (1 + m).toNat xa.toNat).toArray).size = (1 + m).toNat := by simp [ByteArray.size, bigEnd_length]
    have l2 : (ByteArray.mk (bigEnd (1 + m).toNat xb.toNat).toArray).size = (1 + m).toNat := by simp [ByteArray.size, bigEnd_length]
    have o1 := order_less (1 + m).toNat xa xb hxa.1 hxb.1 hoka.2.2 hokb.2.2
    have o2 := order_same (1 + m).toNat xa xb hxa.1 hxb.1 hoka.2.2 hokb.2.2
    have O2 := Lib.hid o2; clear o2
    clear HA HBB HN HA5 HB5 HN5 hb5 hb6
    go_wp2_with fail
    go_ret
    refine ⟨?_, HW.out⟩
    show Ending.returned (.bool ((bigEnd (1 + m).toNat xa.toNat == bigEnd (1 + m).toNat xb.toNat) == (xa == xb))) = _
    rw [O2.out]
    simp
end Go.Proofs.Ytoniebocphjmgaa
