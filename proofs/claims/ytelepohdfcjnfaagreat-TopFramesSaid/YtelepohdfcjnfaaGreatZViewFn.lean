/-
  slices.ContainsFunc with a method's value.
-/
import Derived.Test.YtelepohdfcjnfaaGreatZSetSpec
import Derived.Test.YtelepohdfcjnfaaGreatZSet
namespace Go.Proofs.YtelepohdfcjnfaaGreat
set_option maxHeartbeats 1000000
set_option maxRecDepth 100000
open Go.RowKit Go.Proofs
def PredB (F:FuncId) (fb:Value) (p:Int→Bool) (w:World):Prop:=
 (∀ args w,(callFunc F args).run Tryz.prog w= .ok (.enter F args) w)∧
 ∀ (x:Int) (w':World),Fr (fun _=>False) w w'→Calls Tryz.prog F #[fb, .int .i64 x] w' fun e w''=>e= .returned (.bool (p x))∧Fr (fun _=>False) w' w''
theorem indexFuncB_any (F:FuncId) (fb:Value) (p:Int→Bool) (a:Option Addr) (cap:Nat) (l:List Int) (w:World) (h:SlA w a l.length cap (ints l)) (hp:PredB F fb p w):
  Calls Tryz.prog 65 #[.slice a l.length cap, .func (.func F) #[fb] #[]] w fun e w'=>e= .returned (.int .i64 (idxF p l))∧Fr (fun _=>False) w w':=by
 obtain ⟨hent,hcl⟩:=hp
 have hle:=h.le
 have hmx:=h.max
 have H:=Lib.hid h;clear h
 have HP:=Lib.hid hcl;clear hcl
 go_enter Tryz.func65,Tryz.ntmps65
 go_wp2_with fail
 go_loopw [5,8] (fun jv iv wr=>∃ k:Nat,iv= .int .i64 k∧k≤l.length∧(∀ x∈l.take k,p x=false)∧Fr (fun _=>False) w wr) (fun _ iv _=>l.length-(intOf iv).toNat)
 case atStart=>exact ⟨0,rfl,Nat.zero_le _,by simp,Fr.refl _ _⟩
 case round=>
  obtain ⟨k,rfl,hk,hno,hwr⟩:=hrel
  have HN:=Lib.hid hno;clear hno
  have HW:=Lib.hid hwr;clear hwr
  by_cases hlt:k<l.length
  ·obtain ⟨b,o,rfl,hc⟩:=(H.out.keep HW.out (fun _ _ h=>h)).int k hlt
   have hts:l.take (k+1)=l.take k++[l[k]]:=by rw [List.take_succ_eq_append_getElem hlt]
   have HTS:=Lib.hid hts;clear hts
   have hcall:=HP.out l[k] wr HW.out
   have HCALL:=Lib.hid hcall;clear hcall
   cases hpk:p l[k]
   ·have hno2:∀ x∈l.take (k+1),p x=false:=by
     intro x hx
     rw [HTS.out,List.mem_append] at hx
     rcases hx with hx | hx
     ·exact HN.out x hx
     ·have:x=l[k]:=by simpa using hx
      rw [this];exact hpk
    have HN2:=Lib.hid hno2;clear hno2
    rw [hpk] at HCALL
    clear hpk
    go_wp2_with fail
    refine HCALL.out.mono ?_
    rintro e w2 ⟨rfl,hf2⟩
    have HW2:=Lib.hid (HW.out.trans hf2 (fun _ h=>h.elim));clear hf2
    go_wp2_with fail
    go_roundw
    case rel=>exact ⟨k+1,by go_num,by omega,HN2.out,HW2.out⟩
    case measure=>simp [intOf];omega
   ·have hah:=ahead_at hlt HN.out hpk
    have HAH:=Lib.hid hah;clear hah
    rw [hpk] at HCALL
    clear hpk
    go_wp2_with fail
    refine HCALL.out.mono ?_
    rintro e w2 ⟨rfl,hf2⟩
    have HW2:=Lib.hid (HW.out.trans hf2 (fun _ h=>h.elim));clear hf2
    go_wp2_with fail
    go_ret
    exact ⟨by unfold idxF;rw [HAH.out,if_pos hlt];rfl,HW2.out⟩
  ·have hall:ahead p l=l.length:=by
    have:=HN.out
    rw [List.take_of_length_le (by omega)] at this
    exact ahead_all this
   have HAH:=Lib.hid hall;clear hall
   go_wp2_with fail
   go_ret
   exact ⟨by unfold idxF;rw [HAH.out,if_neg (Nat.lt_irrefl _)];rfl,HW.out⟩
theorem idxF_any (p:Int→Bool) (l:List Int):decide (0≤idxF p l)=l.any p:=by
 unfold idxF
 by_cases h:ahead p l<l.length
 ·rw [if_pos h,decide_eq_true (by omega)]
  symm
  rw [List.any_eq_true]
  exact ⟨_,List.getElem_mem h,(ahead_some h).2⟩
 ·rw [if_neg h,decide_eq_false (by omega)]
  symm
  rw [List.any_eq_false]
  intro x hx hp
  rw [ahead_none h x hx] at hp
  cases hp
theorem containsFuncB_any (F:FuncId) (fb:Value) (p:Int→Bool) (a:Option Addr) (cap:Nat) (l:List Int) (w:World) (h:SlA w a l.length cap (ints l)) (hp:PredB F fb p w):
  Calls Tryz.prog 42 #[.slice a l.length cap, .func (.func F) #[fb] #[]] w fun e w'=>e= .returned (.bool (l.any p))∧Fr (fun _=>False) w w':=by
 have HI:=Lib.hid (indexFuncB_any F fb p a cap l w h hp)
 have HD:=Lib.hid (idxF_any p l)
 obtain ⟨z,hz⟩:∃ z,z=idxF p l:=⟨_,rfl⟩
 rw [←hz] at HI HD
 clear h hp hz
 go_enter Tryz.func42,Tryz.ntmps42
 go_wp2_with fail
 refine HI.out.mono ?_
 rintro e w2 ⟨rfl,f⟩
 have F2:=Lib.hid f
 clear f HI
 go_wp2_with fail
 go_ret
 exact ⟨by rw [HD.out];rfl,F2.out⟩
end Go.Proofs.YtelepohdfcjnfaaGreat
