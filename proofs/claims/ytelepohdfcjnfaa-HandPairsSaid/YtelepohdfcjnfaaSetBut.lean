/-
  Package nodeset: But.
-/
import Derived.Test.YtelepohdfcjnfaaSetDrop
namespace Go.Proofs.Ytelepohdfcjnfaa
open Go.RowKit Go.Proofs

def but (l ks : List Int) : List Int := kept (fun x => has ks x) l

set_option maxHeartbeats 1000000 in
set_option maxRecDepth 100000 in
theorem setBut1_any (b : Nat) (a : Option Addr) (cap : Nat) (ks : List Int) (x : Int) (w : World) (hc : w.cell? ⟨b, 0, none⟩ = some (.slice a ks.length cap)) (hs : SlA w a ks.length cap (ints ks)) :
    Calls Try.prog 101 #[.int .i64 x, .pointer (some ⟨b, 0, none⟩)] w fun e w' => e = .returned (.bool (has ks x)) ∧ Gr w w' := by
  have HI := Lib.hid (contains_any a cap ks x w hs); clear hs
  go_enter Try.func101, Try.ntmps101
  go_wp2_with fail
  refine HI.out.mono ?_
  rintro e w' ⟨rfl, rfl⟩
  go_wp2_with fail
  go_ret
  exact ⟨rfl, Fr.refl _ _⟩

set_option maxHeartbeats 1000000 in
set_option maxRecDepth 100000 in
theorem setBut_any (a : Option Addr) (cap : Nat) (l : List Int) (m : Int) (ka : Option Addr) (kcap : Nat) (ks : List Int) (w : World) (hs : SlA w a l.length cap (ints l)) (hk : SlA w ka ks.length kcap (ints ks)) (hg : Good l m) :
    Calls Try.prog 87 #[setV a l.length cap m, .slice ka ks.length kcap] w (RowOut (but l ks) w) := by
  obtain ⟨w1, hw1⟩ : ∃ w1, w1 = (w.alloc (.cells #[.slice a l.length cap, .int .i64 m] 27)).alloc (.cells #[.slice ka ks.length kcap] 25) := ⟨_, rfl⟩
  have hf1 : Gr w w1 := by rw [hw1]; exact ((Fr.refl _ _).alloc _).alloc _
  have i1 : w1.cell? ⟨w.heap.size + 1, 0, none⟩ = some (.slice ka ks.length kcap) := by rw [World.cell?, hw1, heap_alloc_if', if_pos (by simp)]; rfl
  have hlen := hg.len
  have HA := Lib.hid (setAll_any a cap l m w1 (hs.keep hf1 (fun _ _ h => h)) hg)
  have HK := Lib.hid (hk.keep hf1 (fun _ _ h => h))
  have F1 := Lib.hid hf1
  have hsz : w1.heap.size = w.heap.size + 2 := by rw [hw1]; simp
  have HZ := Lib.hid hsz
  clear hf1 hs hg hk hsz
  unfold setV
  go_enter Try.func87, Try.ntmps87
  go_wp2_with fail
  rw [← hw1]
  clear hw1
  refine HA.out.mono ?_
  rintro e w2 ⟨v, rfl, hown, hb⟩
  have F2 := Lib.hid (Gr.of_below hb)
  have HO := Lib.hid hown
  have HP : Hid (PredI 101 #[.pointer (some ⟨w.heap.size + 1, 0, none⟩)] (fun x => has ks x) (fun k => v.ownBlock = some k) w2) := by
    refine Lib.hid ⟨fun args w => by rfl, fun x w' hf => ?_⟩
    have F3 : Gr w1 w' := Fr.trans F2.out hf (fun k hk => .inr (hown.lt _ hk).1)
    exact setBut1_any _ ka kcap ks x w' (F3.cell i1 (fun h => h)) (HK.out.keep F3 (fun _ _ h => h))
  clear hown hb
  go_wp2_with fail
  refine (deleteFunc_any 101 _ _ _ v l _ HO.out HP.out (by omega)).mono ?_
  rintro e w3 ⟨a3, c3, rfl, hs3, hf3, -⟩
  have hw : Gr w w3 := F1.out.trans (Fr.trans F2.out hf3 (fun k hk => .inr (HO.out.lt _ hk).1))
  have HS3 := Lib.hid hs3
  have HW := Lib.hid hw
  clear hs3 hf3 hw
  go_wp2_with fail
  go_ret
  exact ⟨_, _, rfl, HS3.out, HW.out⟩
end Go.Proofs.Ytelepohdfcjnfaa
