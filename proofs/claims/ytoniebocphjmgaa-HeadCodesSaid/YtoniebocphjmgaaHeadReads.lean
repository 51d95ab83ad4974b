/-
  The walk of HeadReads.
-/
import Derived.Test.YtoniebocphjmgaaHeadS
import Derived.Laws.StructEq
import Derived.ChangeKeysEq
namespace Go.Proofs.Ytoniebocphjmgaa
open Go.RowKit Go.Proofs

theorem two_numAt (l : List UInt8) (i : Nat) (h : i + 2 ≤ l.length) : two (numAt l i) = (l.drop i).take 2 := by
  unfold two numAt
  rw [List.drop_eq_getElem_cons (by omega), List.drop_eq_getElem_cons (by omega)]
  simp only [List.take_succ_cons, List.take_zero, getNum, List.foldl_cons, List.foldl_nil]
  have b1 := (l[i]'(by omega)).toNat_lt
  have b2 := (l[i + 1]'(by omega)).toNat_lt
  simp only [bigEnd, Int.toNat_natCast]
  congr 1
  · apply UInt8.toNat_inj.1; rw [UInt8.toNat_ofNat']; omega
  · congr 1
    apply UInt8.toNat_inj.1; rw [UInt8.toNat_ofNat']; omega

theorem flags_hdOf (n0 n1 n2 n3 n4 n5 : Int) (h0 : 0 ≤ n1) (h1 : n1 ≤ 65535) : (hdOf n0 n1 n2 n3 n4 n5).flags = n1 := by
  simp only [Hd.flags, Hd.fl, hdOf, bitI]
  simp only [beq_iff_eq]
  simp
  split <;> split <;> split <;> split <;> split <;> omega

theorem take_two (l : List UInt8) (i : Nat) : l.take i ++ (l.drop i).take 2 = l.take (i + 2) := by
  rw [List.take_add]

theorem hdRead_bytes (l : List UInt8) (h : 12 ≤ l.length) : (hdRead l).bytes = l.take 12 := by
  have r := numAt_range l 2
  have e : (hdRead l).flags = numAt l 2 := flags_hdOf _ _ _ _ _ _ r.1 r.2
  unfold Hd.bytes Hd.part Hd.cs
  rw [e]
  simp only [hdRead, hdOf]
  rw [two_numAt l 0 (by omega), two_numAt l 2 (by omega)]
  simp only [List.take_succ_cons, List.take_zero, List.flatMap_cons, List.flatMap_nil, List.append_nil]
  rw [two_numAt l 4 (by omega), two_numAt l 6 (by omega), two_numAt l 8 (by omega), two_numAt l 10 (by omega)]
  simp only [← List.append_assoc, List.drop_zero]
  rw [take_two, take_two, take_two, take_two, take_two]

theorem hdRead_out (l : List UInt8) (h : 12 ≤ l.length) : hdOut (hdRead l) = .ok (l.take 12) := by
  have r := numAt_range l 2
  unfold hdOut
  rw [if_neg, hdRead_bytes l h]
  unfold Hd.bad hdRead hdOf
  simp only
  omega

theorem Try.infou16 : (Try.prog.info? 66).map (fun i => i.size) = some 1 := by kernel_rfl
theorem Try.cellsu16 : Try.prog.cellsOf 66 = 1 := by kernel_rfl

set_option maxHeartbeats 1000000 in
theorem eql_u16x4 (w : World) (d : Nat) (a0 a1 a2 a3 b0 b1 b2 b3 : Int) : (Op.equalIn (d + 2) 67 (.agg #[.int .u16 a0, .int .u16 a1, .int .u16 a2, .int .u16 a3]) (.agg #[.int .u16 b0, .int .u16 b1, .int .u16 b2, .int .u16 b3])).run Try.prog w =
    .ok (a0 == b0 && (a1 == b1 && (a2 == b2 && a3 == b3))) w := by
  obtain ⟨i, hi, _⟩ := Option.map_eq_some_iff.1 Try.infou16
  rw [run_equalIn_array w (d + 1) _ _ Try.underlying67 hi, Try.cellsu16]
  have hp : ∀ (xs : Array Value) (w : World), ∀ j v, xs[j]? = some v → v.oneCell' = true → (part 66 xs (j * 1)).run Try.prog w = .ok v w := by
    intro xs w j v h1 h2
    simp [part, run_sizeOf, hi, Try.cellsu16, h1, go_sem]
  have hr : List.range 4 = [0, 1, 2, 3] := rfl
  rw [hr]
  have px0 : ∀ w, (part 66 #[.int .u16 a0, .int .u16 a1, .int .u16 a2, .int .u16 a3] 0).run Try.prog w = .ok (.int .u16 a0) w := fun w => hp _ w 0 _ rfl rfl
  have px1 : ∀ w, (part 66 #[.int .u16 a0, .int .u16 a1, .int .u16 a2, .int .u16 a3] 1).run Try.prog w = .ok (.int .u16 a1) w := fun w => hp _ w 1 _ rfl rfl
  have px2 : ∀ w, (part 66 #[.int .u16 a0, .int .u16 a1, .int .u16 a2, .int .u16 a3] 2).run Try.prog w = .ok (.int .u16 a2) w := fun w => hp _ w 2 _ rfl rfl
  have px3 : ∀ w, (part 66 #[.int .u16 a0, .int .u16 a1, .int .u16 a2, .int .u16 a3] 3).run Try.prog w = .ok (.int .u16 a3) w := fun w => hp _ w 3 _ rfl rfl
  have py0 : ∀ w, (part 66 #[.int .u16 b0, .int .u16 b1, .int .u16 b2, .int .u16 b3] 0).run Try.prog w = .ok (.int .u16 b0) w := fun w => hp _ w 0 _ rfl rfl
  have py1 : ∀ w, (part 66 #[.int .u16 b0, .int .u16 b1, .int .u16 b2, .int .u16 b3] 1).run Try.prog w = .ok (.int .u16 b1) w := fun w => hp _ w 1 _ rfl rfl
  have py2 : ∀ w, (part 66 #[.int .u16 b0, .int .u16 b1, .int .u16 b2, .int .u16 b3] 2).run Try.prog w = .ok (.int .u16 b2) w := fun w => hp _ w 2 _ rfl rfl
  have py3 : ∀ w, (part 66 #[.int .u16 b0, .int .u16 b1, .int .u16 b2, .int .u16 b3] 3).run Try.prog w = .ok (.int .u16 b3) w := fun w => hp _ w 3 _ rfl rfl
  have he : ∀ (w : World) (a b : Int), (Op.equalIn (d + 1) 66 (.int .u16 a) (.int .u16 b)).run Try.prog w = .ok (a == b) w := fun w a b => run_equalIn_int w d _ _ _ a b Try.underlying66
  simp only [Op.eqItems, Sem.run_bind, Nat.mul_one, px0, py0, Result.andThen_ok, he]
  cases h0 : (a0 == b0) <;> cases h1 : (a1 == b1) <;> cases h2 : (a2 == b2) <;> cases h3 : (a3 == b3) <;> simp [*]

theorem refGet2_z (s : ByteArray) (z : Int) (w : World) (h0 : 0 ≤ z) (h : z + 1 < (s.size : Int)) (hs : s.size ≤ 9223372036854775807) :
    Calls Try.prog 47 #[.string s, .int .i64 z] w fun e w' => e = .returned (.int .i64 (numAt s.data.toList z.toNat)) ∧ ∃ n, w' = w.drewN n :=
  refGet2_any s z.toNat z (by omega) w (by omega) hs

set_option maxHeartbeats 4000000 in
set_option maxRecDepth 100000 in
theorem headReads_walk (s : ByteArray) (W : World) (hs : s.size ≤ 9223372036854775807) :
    Calls Try.prog 11 #[.string s] W fun e w' => e = .returned (.bool true) ∧ Below W.heap.size W w' := by
  obtain ⟨m, hms, hm40, hitem, hminm⟩ : ∃ m : Nat, m ≤ s.size ∧ m ≤ 40 ∧ (if (40 : Int) < (s.size : Int) then (40 : Int) else (s.size : Int)) = (m : Int) ∧ min (s.size : Int) 40 = (m : Int) :=
    ⟨min s.size 40, by omega, by omega, by split <;> omega, by omega⟩
  have heq := fun (w : World) (a0 a1 a2 a3 b0 b1 b2 b3 : Int) => eql_u16x4 w 9997 a0 a1 a2 a3 b0 b1 b2 b3
  go_enter Try.func11, Try.ntmps11
  go_wp2_with fail
  refine (speaks22_any W).mono ?_
  rintro e w1 ⟨rfl, hf1⟩
  have F1 := Lib.hid hf1; clear hf1
  go_wp2_with fail
  obtain ⟨t, ht, hts⟩ : ∃ t, s.extract 0 m = t ∧ t.size ≤ 40 := ⟨_, rfl, by simp; omega⟩
  rw [ht]
  clear ht hitem hminm
  have htl : t = ⟨t.data.toList.toArray⟩ := by apply ByteArray.ext; simp
  have hd := headDecode_any t.data.toList (by simp; omega) w1
  rw [← htl] at hd
  refine hd.mono ?_
  clear htl hd
  rintro e w2 ⟨hf2, he⟩
  have hlen : t.data.toList.length = t.size := by simp
  rw [hlen] at he
  have F2 := Lib.hid (F1.out.trans hf2 (fun _ h => h.elim)); clear hf2 F1
  by_cases h12 : t.size < 12
  · rw [if_pos h12] at he
    subst he
    unfold hdZero Hd.val
    clear hlen
    go_wp2_with fail
    go_ret
    exact ⟨rfl, Fr.below (Below.refl _ _) (F2.out.alloc _) (Nat.le_refl _) (fun k h => h.elim)⟩
  · rw [if_neg h12] at he
    subst he
    have h3 := headEncode_any (hdRead t.data.toList) (hdRead_fits _) (w2.alloc (.cells (hdRead t.data.toList).cells.toArray 71))
    have htake : (ByteArray.mk (t.data.toList.take 12).toArray) = t.extract 0 12 := by
      apply ByteArray.ext; apply Array.ext'; simp
    have hend : (hdOut (hdRead t.data.toList)).ending = .returned (.tuple #[.string (t.extract 0 12), .int .i64 0]) := by
      rw [hdRead_out _ (by omega), ← htake]; rfl
    rw [hend] at h3
    clear hend htake
    have H3 := Lib.hid h3; clear h3
    clear hlen
    have hid := numAt_bytes t 0 (by omega)
    have hc3 : (hdRead t.data.toList).c3 = numAt t.data.toList 10 := rfl
    have hid0 : (hdRead t.data.toList).id = numAt t.data.toList 0 := rfl
    have hb2 := t[2].toNat_lt
    have hb3 := t[3].toNat_lt
    have hcode : (hdRead t.data.toList).code = (t[3].toNat : Int) % 16 := by
      show numAt t.data.toList 2 % 16 = _
      rw [numAt_bytes t 2 (by omega), show t[2 + 1] = t[3] from rfl]; omega
    have hresp : (hdRead t.data.toList).resp = decide ((128 : Int) ≤ (t[2].toNat : Int)) := by
      show (numAt t.data.toList 2 / 32768 % 2 == 1) = _
      rw [numAt_bytes t 2 (by omega), Bool.eq_iff_iff]; simp; omega
    have hfit := hdRead_fits t.data.toList
    have hz : ∀ j, j < 13 → (w2.alloc (.cells (hdRead t.data.toList).cells.toArray 71)).cell? ⟨w2.heap.size, j, none⟩ = (hdRead t.data.toList).cells[j]? := by
      intro j hj
      rw [World.cell?_alloc_at _ _ _ _ rfl]; simp
    generalize hR : hdRead t.data.toList = R at *
    clear hR
    have HID := Lib.hid (And.intro hid0 (And.intro hc3 (And.intro hcode hresp))); clear hid0 hc3 hcode hresp hid
    have HZ := Lib.hid hz; clear hz
    unfold Hd.val
    go_wp2_with fail
    refine H3.out.mono ?_
    clear H3
    rintro e w3 ⟨rfl, hf3⟩
    have i0 : w3.cell? ⟨w2.heap.size, 0, none⟩ = some (.int .u16 R.id) := hf3.cell (HZ.out 0 (by omega)) (fun h => h)
    have i1 : w3.cell? ⟨w2.heap.size, 1, none⟩ = some (.bool R.resp) := hf3.cell (HZ.out 1 (by omega)) (fun h => h)
    have i8 : w3.cell? ⟨w2.heap.size, 8, none⟩ = some (.int .u8 R.code) := hf3.cell (HZ.out 8 (by omega)) (fun h => h)
    have i12 : w3.cell? ⟨w2.heap.size, 12, none⟩ = some (.int .u16 R.c3) := hf3.cell (HZ.out 12 (by omega)) (fun h => h)
    have F3 := Lib.hid ((F2.out.alloc _).trans hf3 (fun _ h => h.elim)); clear hf3
    have b0 := hfit.id
    have b8 := hfit.code
    have b12 := hfit.c3
    have l2 : (2 : Int) < (t.size : Int) := by omega
    have l3 : (3 : Int) < (t.size : Int) := by omega
    have l12 : (12 : Int) ≤ (t.size : Int) := by omega
    go_wp2_with fail
    have g0 : (R.id == numAt t.data.toList 0) = true := by rw [HID.out.1]; simp
    have g1 : (R.c3 == numAt t.data.toList 10) = true := by rw [HID.out.2.1]; simp
    have g2 : (R.code == (t[3].toNat : Int) % 16) = true := by rw [HID.out.2.2.1]; simp
    have g3 : (R.resp == decide ((128 : Int) ≤ (t[2].toNat : Int))) = true := by rw [HID.out.2.2.2]; simp
    go_quiet ((go_at_call 47; exact Calls.quiet_of (refGet2_z t _ _ (by decide) (by omega) (by omega))))
    go_wp2_with fail
    go_ret
    exact ⟨rfl, Fr.below (Below.refl _ _) (F3.out.drewN _) (Nat.le_refl _) (fun k h => h.elim)⟩
end Go.Proofs.Ytoniebocphjmgaa
