/-
  slices.IndexFunc, ContainsFunc and Equal at []int, []message.Id, []message.Rec.
-/
import Derived.Test.YtelepohdfcjnfaaGreatZMsgSpec
import Derived.Test.YtelepohdfcjnfaaGreatZOwn
import Derived.Laws.StructEq
namespace Go.Proofs.YtelepohdfcjnfaaGreat
set_option maxHeartbeats 4000000
set_option maxRecDepth 100000
section
open Go.RowKit Go.Proofs
abbrev MId.cells (x:MId):List Value:=[.string x.key, .int .u64 x.ver]
abbrev MRec.cells (x:MRec):List Value:=[.string x.key, .int .u64 x.ver, .int .i64 x.origin, .int .i64 x.age, .bool x.gone, .string x.data]
abbrev MInt.cells (x:Int):List Value:=[.int .i64 x]
abbrev MId.val (x:MId):Value:= .agg #[.string x.key, .int .u64 x.ver]
abbrev MRec.val (x:MRec):Value:= .agg #[.string x.key, .int .u64 x.ver, .int .i64 x.origin, .int .i64 x.age, .bool x.gone, .string x.data]
abbrev MInt.val (x:Int):Value:= .int .i64 x
def AnySays (b:Bool) (e:Ending):Prop:=∃ n:Int,e= .returned (.int .i64 n)∧(b=true→0≤n)∧(b=false→n= -1)
structure PredF (F:FuncId) {α:Type} (val:α→Value) (p:α→Bool):Prop where
 ent:∀ args w,(callFunc F args).run Tryz.prog w= .ok (.enter F args) w
 says:∀ (x:α) (w:World),Calls Tryz.prog F #[val x] w fun e w'=>e= .returned (.bool (p x))∧Gr w w'
theorem indexFn_int (F:FuncId) (p:Int→Bool) (hp:PredF F MInt.val p) (a:Option Addr) (cap:Nat) (l:List Int) (w:World) (h:SlA w a l.length cap (l.flatMap MInt.cells)):
  Calls Tryz.prog 65 #[.slice a l.length cap, .func (.func F) #[] #[]] w fun e w'=>AnySays (l.any p) e∧Gr w w':=by
 obtain ⟨hent,hcl⟩:=hp
 have hle:=h.le
 have hmx:=h.max
 have H:=Lib.hid h;clear h
 have HP:=Lib.hid hcl;clear hcl
 go_enter Tryz.func65,Tryz.ntmps65
 go_wp2_with fail
 go_loopw [5,8] (fun jv iv wr=>∃ k:Nat,iv= .int .i64 k∧k≤l.length∧(l.take k).any p=false∧Gr w wr) (fun _ iv _=>l.length-(intOf iv).toNat)
 case atStart=>exact ⟨0,rfl,Nat.zero_le _,rfl,Fr.refl _ _⟩
 case round=>
  obtain ⟨k,rfl,hk,hno,hwr⟩:=hrel
  have HN:=Lib.hid hno;clear hno
  have HW:=Lib.hid hwr;clear hwr
  by_cases hlt:k<l.length
  ·obtain ⟨b,o,rfl,hc⟩:=(H.out.keep HW.out (fun _ _ h=>h)).elem (f:=MInt.cells) (n:=1) (fun _=>rfl) (by decide) k hlt
   have hc0:wr.cell? ⟨b,o+k,none⟩=some (.int .i64 l[k]):=by have:=hc 0 _ rfl;simpa using this
   have HTS:=Lib.hid (show l.take (k+1)=l.take k++[l[k]] by rw [List.take_succ_eq_append_getElem hlt])
   have HCALL:=Lib.hid (HP.out l[k] wr)
   clear hc
   cases hpk:p l[k]
   ·have HN2:Hid ((l.take (k+1)).any p=false):=Lib.hid (by rw [HTS.out,List.any_append,HN.out];simp [hpk])
    rw [hpk] at HCALL
    clear hpk
    generalize l[k]=x at *
    go_wp2_with fail
    refine HCALL.out.mono ?_
    rintro e w2 ⟨rfl,hf2⟩
    have HW2:=Lib.hid (Gr.trans HW.out hf2);clear hf2
    go_wp2_with fail
    go_roundw
    case rel=>exact ⟨k+1,by go_num,by omega,HN2.out,HW2.out⟩
    case measure=>simp [intOf];omega
   ·have HA:Hid (l.any p=true):=Lib.hid (List.any_eq_true.2 ⟨l[k],List.getElem_mem hlt,hpk⟩)
    rw [hpk] at HCALL
    clear hpk
    generalize l[k]=x at *
    go_wp2_with fail
    refine HCALL.out.mono ?_
    rintro e w2 ⟨rfl,hf2⟩
    have HW2:=Lib.hid (Gr.trans HW.out hf2);clear hf2
    go_wp2_with fail
    go_ret
    exact ⟨⟨_,rfl,fun _=>by omega,fun h=>by rw [HA.out] at h;cases h⟩,HW2.out⟩
  ·have HA:Hid (l.any p=false):=Lib.hid (by have:=HN.out;rwa [List.take_of_length_le (by omega)] at this)
   go_wp2_with fail
   go_ret
   exact ⟨⟨_,rfl,fun h=>by (rw [HA.out] at h;cases h),fun _=>rfl⟩,HW.out⟩
theorem containsFn_int (F:FuncId) (p:Int→Bool) (hp:PredF F MInt.val p) (a:Option Addr) (cap:Nat) (l:List Int) (w:World) (h:SlA w a l.length cap (l.flatMap MInt.cells)):
  Calls Tryz.prog 42 #[.slice a l.length cap, .func (.func F) #[] #[]] w fun e w'=>e= .returned (.bool (l.any p))∧Gr w w':=by
 have HI:=Lib.hid (indexFn_int F p hp a cap l w h);clear h hp
 generalize hc:l.any p=c at *
 clear hc
 cases c
 ·go_enter Tryz.func42,Tryz.ntmps42
  go_wp2_with fail
  refine HI.out.mono ?_
  rintro e w' ⟨⟨n,rfl,_,h2⟩,hf⟩
  obtain rfl:=h2 rfl
  have HF:=Lib.hid hf
  clear h2 hf
  go_wp2_with fail
  go_ret
  exact ⟨rfl,HF.out⟩
 ·go_enter Tryz.func42,Tryz.ntmps42
  go_wp2_with fail
  refine HI.out.mono ?_
  rintro e w' ⟨⟨n,rfl,h1,_⟩,hf⟩
  have h1':=h1 rfl
  have hd:decide ((0:Int)≤n)=true:=by simpa using h1'
  have HF:=Lib.hid hf
  clear h1 hf
  go_wp2_with fail
  go_ret
  exact ⟨rfl,HF.out⟩
theorem indexFn_id (F:FuncId) (p:MId→Bool) (hp:PredF F MId.val p) (a:Option Addr) (cap:Nat) (l:List MId) (w:World) (h:SlA w a l.length cap (l.flatMap MId.cells)):
  Calls Tryz.prog 122 #[.slice a l.length cap, .func (.func F) #[] #[]] w fun e w'=>AnySays (l.any p) e∧Gr w w':=by
 obtain ⟨hent,hcl⟩:=hp
 have hle:=h.le
 have hmx:=h.max
 have H:=Lib.hid h;clear h
 have HP:=Lib.hid hcl;clear hcl
 go_enter Tryz.func122,Tryz.ntmps122
 go_wp2_with fail
 go_loopw [5,8] (fun jv iv wr=>∃ k:Nat,iv= .int .i64 k∧k≤l.length∧(l.take k).any p=false∧Gr w wr) (fun _ iv _=>l.length-(intOf iv).toNat)
 case atStart=>exact ⟨0,rfl,Nat.zero_le _,rfl,Fr.refl _ _⟩
 case round=>
  obtain ⟨k,rfl,hk,hno,hwr⟩:=hrel
  have HN:=Lib.hid hno;clear hno
  have HW:=Lib.hid hwr;clear hwr
  by_cases hlt:k<l.length
  ·obtain ⟨b,o,rfl,hc⟩:=(H.out.keep HW.out (fun _ _ h=>h)).elem (f:=MId.cells) (n:=2) (fun _=>rfl) (by decide) k hlt
   have hc0:=hc 0 _ rfl
   have hc1:=hc 1 _ rfl
   simp only [Nat.add_zero] at hc0
   have HTS:=Lib.hid (show l.take (k+1)=l.take k++[l[k]] by rw [List.take_succ_eq_append_getElem hlt])
   have HCALL:=Lib.hid (HP.out l[k] wr)
   clear hc
   cases hpk:p l[k]
   ·have HN2:Hid ((l.take (k+1)).any p=false):=Lib.hid (by rw [HTS.out,List.any_append,HN.out];simp [hpk])
    rw [hpk] at HCALL
    clear hpk
    generalize l[k]=x at *
    go_wp2_with fail
    refine HCALL.out.mono ?_
    rintro e w2 ⟨rfl,hf2⟩
    have HW2:=Lib.hid (Gr.trans HW.out hf2);clear hf2
    go_wp2_with fail
    go_roundw
    case rel=>exact ⟨k+1,by go_num,by omega,HN2.out,HW2.out⟩
    case measure=>simp [intOf];omega
   ·have HA:Hid (l.any p=true):=Lib.hid (List.any_eq_true.2 ⟨l[k],List.getElem_mem hlt,hpk⟩)
    rw [hpk] at HCALL
    clear hpk
    generalize l[k]=x at *
    go_wp2_with fail
    refine HCALL.out.mono ?_
    rintro e w2 ⟨rfl,hf2⟩
    have HW2:=Lib.hid (Gr.trans HW.out hf2);clear hf2
    go_wp2_with fail
    go_ret
    exact ⟨⟨_,rfl,fun _=>by omega,fun h=>by rw [HA.out] at h;cases h⟩,HW2.out⟩
  ·have HA:Hid (l.any p=false):=Lib.hid (by have:=HN.out;rwa [List.take_of_length_le (by omega)] at this)
   go_wp2_with fail
   go_ret
   exact ⟨⟨_,rfl,fun h=>by (rw [HA.out] at h;cases h),fun _=>rfl⟩,HW.out⟩
theorem containsFn_id (F:FuncId) (p:MId→Bool) (hp:PredF F MId.val p) (a:Option Addr) (cap:Nat) (l:List MId) (w:World) (h:SlA w a l.length cap (l.flatMap MId.cells)):
  Calls Tryz.prog 94 #[.slice a l.length cap, .func (.func F) #[] #[]] w fun e w'=>e= .returned (.bool (l.any p))∧Gr w w':=by
 have HI:=Lib.hid (indexFn_id F p hp a cap l w h);clear h hp
 generalize hc:l.any p=c at *
 clear hc
 cases c
 ·go_enter Tryz.func94,Tryz.ntmps94
  go_wp2_with fail
  refine HI.out.mono ?_
  rintro e w' ⟨⟨n,rfl,_,h2⟩,hf⟩
  obtain rfl:=h2 rfl
  have HF:=Lib.hid hf
  clear h2 hf
  go_wp2_with fail
  go_ret
  exact ⟨rfl,HF.out⟩
 ·go_enter Tryz.func94,Tryz.ntmps94
  go_wp2_with fail
  refine HI.out.mono ?_
  rintro e w' ⟨⟨n,rfl,h1,_⟩,hf⟩
  have h1':=h1 rfl
  have hd:decide ((0:Int)≤n)=true:=by simpa using h1'
  have HF:=Lib.hid hf
  clear h1 hf
  go_wp2_with fail
  go_ret
  exact ⟨rfl,HF.out⟩
theorem indexFn_rec (F:FuncId) (p:MRec→Bool) (hp:PredF F MRec.val p) (a:Option Addr) (cap:Nat) (l:List MRec) (w:World) (h:SlA w a l.length cap (l.flatMap MRec.cells)):
  Calls Tryz.prog 123 #[.slice a l.length cap, .func (.func F) #[] #[]] w fun e w'=>AnySays (l.any p) e∧Gr w w':=by
 obtain ⟨hent,hcl⟩:=hp
 have hle:=h.le
 have hmx:=h.max
 have H:=Lib.hid h;clear h
 have HP:=Lib.hid hcl;clear hcl
 go_enter Tryz.func123,Tryz.ntmps123
 go_wp2_with fail
 go_loopw [5,8] (fun jv iv wr=>∃ k:Nat,iv= .int .i64 k∧k≤l.length∧(l.take k).any p=false∧Gr w wr) (fun _ iv _=>l.length-(intOf iv).toNat)
 case atStart=>exact ⟨0,rfl,Nat.zero_le _,rfl,Fr.refl _ _⟩
 case round=>
  obtain ⟨k,rfl,hk,hno,hwr⟩:=hrel
  have HN:=Lib.hid hno;clear hno
  have HW:=Lib.hid hwr;clear hwr
  by_cases hlt:k<l.length
  ·obtain ⟨b,o,rfl,hc⟩:=(H.out.keep HW.out (fun _ _ h=>h)).elem (f:=MRec.cells) (n:=6) (fun _=>rfl) (by decide) k hlt
   have hc0:=hc 0 _ rfl
   have hc1:=hc 1 _ rfl
   have hc2:=hc 2 _ rfl
   have hc3:=hc 3 _ rfl
   have hc4:=hc 4 _ rfl
   have hc5:=hc 5 _ rfl
   simp only [Nat.add_zero] at hc0
   have HTS:=Lib.hid (show l.take (k+1)=l.take k++[l[k]] by rw [List.take_succ_eq_append_getElem hlt])
   have HCALL:=Lib.hid (HP.out l[k] wr)
   clear hc
   cases hpk:p l[k]
   ·have HN2:Hid ((l.take (k+1)).any p=false):=Lib.hid (by rw [HTS.out,List.any_append,HN.out];simp [hpk])
    rw [hpk] at HCALL
    clear hpk
    generalize l[k]=x at *
    go_wp2_with fail
    refine HCALL.out.mono ?_
    rintro e w2 ⟨rfl,hf2⟩
    have HW2:=Lib.hid (Gr.trans HW.out hf2);clear hf2
    go_wp2_with fail
    go_roundw
    case rel=>exact ⟨k+1,by go_num,by omega,HN2.out,HW2.out⟩
    case measure=>simp [intOf];omega
   ·have HA:Hid (l.any p=true):=Lib.hid (List.any_eq_true.2 ⟨l[k],List.getElem_mem hlt,hpk⟩)
    rw [hpk] at HCALL
    clear hpk
    generalize l[k]=x at *
    go_wp2_with fail
    refine HCALL.out.mono ?_
    rintro e w2 ⟨rfl,hf2⟩
    have HW2:=Lib.hid (Gr.trans HW.out hf2);clear hf2
    go_wp2_with fail
    go_ret
    exact ⟨⟨_,rfl,fun _=>by omega,fun h=>by rw [HA.out] at h;cases h⟩,HW2.out⟩
  ·have HA:Hid (l.any p=false):=Lib.hid (by have:=HN.out;rwa [List.take_of_length_le (by omega)] at this)
   go_wp2_with fail
   go_ret
   exact ⟨⟨_,rfl,fun h=>by (rw [HA.out] at h;cases h),fun _=>rfl⟩,HW.out⟩
theorem containsFn_rec (F:FuncId) (p:MRec→Bool) (hp:PredF F MRec.val p) (a:Option Addr) (cap:Nat) (l:List MRec) (w:World) (h:SlA w a l.length cap (l.flatMap MRec.cells)):
  Calls Tryz.prog 96 #[.slice a l.length cap, .func (.func F) #[] #[]] w fun e w'=>e= .returned (.bool (l.any p))∧Gr w w':=by
 have HI:=Lib.hid (indexFn_rec F p hp a cap l w h);clear h hp
 generalize hc:l.any p=c at *
 clear hc
 cases c
 ·go_enter Tryz.func96,Tryz.ntmps96
  go_wp2_with fail
  refine HI.out.mono ?_
  rintro e w' ⟨⟨n,rfl,_,h2⟩,hf⟩
  obtain rfl:=h2 rfl
  have HF:=Lib.hid hf
  clear h2 hf
  go_wp2_with fail
  go_ret
  exact ⟨rfl,HF.out⟩
 ·go_enter Tryz.func96,Tryz.ntmps96
  go_wp2_with fail
  refine HI.out.mono ?_
  rintro e w' ⟨⟨n,rfl,h1,_⟩,hf⟩
  have h1':=h1 rfl
  have hd:decide ((0:Int)≤n)=true:=by simpa using h1'
  have HF:=Lib.hid hf
  clear h1 hf
  go_wp2_with fail
  go_ret
  exact ⟨rfl,HF.out⟩
end
section
open Go.RowKit Go.Proofs
structure MsgP where
 a1:Option Addr
 c1:Nat
 a2:Option Addr
 c2:Nat
 a3:Option Addr
 c3:Nat
abbrev Msg.cells (m:Msg) (p:MsgP):List Value:=[.int .i64 m.kind, .int .i64 m.node, .int .i64 m.walk, .bool m.high, .slice p.a1 m.nodes.length p.c1, .slice p.a2 m.ids.length p.c2, .slice p.a3 m.recs.length p.c3]
abbrev Msg.val (m:Msg) (p:MsgP):Value:= .agg #[.int .i64 m.kind, .int .i64 m.node, .int .i64 m.walk, .bool m.high, .slice p.a1 m.nodes.length p.c1, .slice p.a2 m.ids.length p.c2, .slice p.a3 m.recs.length p.c3]
structure MsgAt (w:World) (m:Msg) (p:MsgP):Prop where
 nodes:SlA w p.a1 m.nodes.length p.c1 (m.nodes.flatMap MInt.cells)
 ids:SlA w p.a2 m.ids.length p.c2 (m.ids.flatMap MId.cells)
 recs:SlA w p.a3 m.recs.length p.c3 (m.recs.flatMap MRec.cells)
theorem MsgAt.old {S:Nat→Prop} {w w':World} {m:Msg} {p:MsgP} (h:MsgAt w m p) (f:Fr S w w') (hS:∀ k,S k→w.heap.size≤k):MsgAt w' m p:=⟨h.nodes.old f hS,h.ids.old f hS,h.recs.old f hS⟩
theorem MsgAt.keep {w w':World} {m:Msg} {p:MsgP} (h:MsgAt w m p) (f:Gr w w'):MsgAt w' m p:=h.old f (fun _ h=>h.elim)
theorem in_any (n lo hi:Int) (w:World):Calls Tryz.prog 92 #[.int .i64 n, .int .i64 lo, .int .i64 hi] w fun e w'=>e= .returned (.bool (inR n lo hi))∧w=w':=by
 by_cases h1:lo≤n
 ·by_cases h2:n≤hi
  ·have d1:decide (lo≤n)=true:=by simpa using h1
   have d2:decide (n≤hi)=true:=by simpa using h2
   have HD:=Lib.hid (show inR n lo hi=true by simp [inR,h1,h2])
   rw [HD.out]
   go_enter Tryz.func92,Tryz.ntmps92
   go_wp2_with fail
   go_ret
   exact ⟨rfl,rfl⟩
  ·have d1:decide (lo≤n)=true:=by simpa using h1
   have d2:decide (n≤hi)=false:=by simpa using h2
   have HD:=Lib.hid (show inR n lo hi=false by simp [inR,h2])
   rw [HD.out]
   go_enter Tryz.func92,Tryz.ntmps92
   go_wp2_with fail
   go_ret
   exact ⟨rfl,rfl⟩
 ·have d1:decide (lo≤n)=false:=by simpa using h1
  have HD:=Lib.hid (show inR n lo hi=false by simp [inR,h1])
  rw [HD.out]
  go_enter Tryz.func92,Tryz.ntmps92
  go_wp2_with fail
  go_ret
  exact ⟨rfl,rfl⟩
theorem pred_int:PredF 93 MInt.val (fun n=> !inR n 1 65535):=by
 refine ⟨enters_fn Tryz.func93 (by kernel_rfl) rfl,fun x w=>?_⟩
 generalize hb:inR x 1 65535=b
 have HB:=Lib.hid (in_any x 1 65535)
 rw [hb] at HB
 clear hb
 go_enter Tryz.func93,Tryz.ntmps93
 go_wp2_with fail
 refine (HB.out _).mono ?_
 rintro e w' ⟨rfl,rfl⟩
 go_wp2_with fail
 go_ret
 exact ⟨rfl,Fr.refl _ _⟩
theorem pred_id:PredF 95 MId.val (fun x=> !decide (x.key.size≤64)):=by
 refine ⟨enters_fn Tryz.func95 (by kernel_rfl) rfl,fun x w=>?_⟩
 have HB:(!decide (x.key.size≤64))=decide ((64:Int)<(x.key.size:Int)):=by by_cases h:x.key.size≤64<;>simp [h]<;>omega
 simp only [HB]
 clear HB
 go_enter Tryz.func95,Tryz.ntmps95
 go_wp2_with fail
 go_ret
 exact ⟨rfl,(Fr.refl _ _).alloc _⟩
theorem right_any (x:MRec) (w:World):Calls Tryz.prog 98 #[x.val] w fun e w'=>e= .returned (.bool x.right)∧Gr w w':=by
 have HR:Hid (x.right=(decide (x.key.size≤64)&&decide (x.data.size≤64)&&inR x.origin 1 65535&&inR x.age 0 65535)):=Lib.hid rfl
 have HO:=Lib.hid (in_any x.origin 1 65535)
 have HA:=Lib.hid (in_any x.age 0 65535)
 generalize inR x.origin 1 65535=b1 at *
 generalize inR x.age 0 65535=b2 at *
 generalize x.right=r at *
 by_cases h1:x.key.size≤64
 ·by_cases h2:x.data.size≤64
  ·cases b1
   ·obtain rfl:r=false:=by rw [HR.out];simp
    clear HR
    go_enter Tryz.func98,Tryz.ntmps98
    go_wp2_with fail
    refine (HO.out _).mono ?_
    rintro e w' ⟨rfl,rfl⟩
    go_wp2_with fail
    go_ret
    exact ⟨rfl,(Fr.refl _ _).alloc _⟩
   ·obtain rfl:r=b2:=by rw [HR.out];simp [h1,h2]
    clear HR
    go_enter Tryz.func98,Tryz.ntmps98
    go_wp2_with fail
    refine (HO.out _).mono ?_
    rintro e w' ⟨rfl,rfl⟩
    go_wp2_with fail
    refine (HA.out _).mono ?_
    rintro e w' ⟨rfl,rfl⟩
    go_wp2_with fail
    go_ret
    exact ⟨rfl,(Fr.refl _ _).alloc _⟩
  ·obtain rfl:r=false:=by rw [HR.out];simp [h2]
   clear HR
   go_enter Tryz.func98,Tryz.ntmps98
   go_wp2_with fail
   go_ret
   exact ⟨rfl,(Fr.refl _ _).alloc _⟩
 ·obtain rfl:r=false:=by rw [HR.out];simp [h1]
  clear HR
  go_enter Tryz.func98,Tryz.ntmps98
  go_wp2_with fail
  go_ret
  exact ⟨rfl,(Fr.refl _ _).alloc _⟩
theorem pred_rec:PredF 97 MRec.val (fun x=> !x.right):=by
 refine ⟨enters_fn Tryz.func97 (by kernel_rfl) rfl,fun x w=>?_⟩
 have HB:=Lib.hid (right_any x)
 generalize x.right=b at *
 go_enter Tryz.func97,Tryz.ntmps97
 go_wp2_with fail
 refine (HB.out _).mono ?_
 rintro e w' ⟨rfl,f⟩
 have F:=Lib.hid (((Fr.refl (fun _=>False) w).alloc _).trans f (fun _ h=> .inl h));clear f
 go_wp2_with fail
 go_ret
 exact ⟨rfl,F.out⟩
theorem any_not {α:Type} (p:α→Bool) (l:List α):(l.any fun x=> !p x)= !l.all p:=by
 induction l with
 | nil=>rfl
 | cons x r ih=>simp [ih]
theorem may_any (m:Msg) (p:MsgP) (w:World) (h:MsgAt w m p):Calls Tryz.prog 55 #[m.val p] w fun e w'=>e= .returned (.bool m.may)∧Gr w w':=by
 have HR:Hid (m.may=(inR m.kind 1 14&&inR m.node 0 65535&&inR m.walk 0 15&&decide (m.nodes.length≤64)&&decide (m.ids.length≤64)&&decide (m.recs.length≤16)&&
  !(m.nodes.any fun n=> !inR n 1 65535)&& !(m.ids.any fun x=> !decide (x.key.size≤64))&& !(m.recs.any fun x=> !x.right))):=Lib.hid (by
   rw [any_not,any_not,any_not];simp only [Bool.not_not];rfl)
 have C1:=Lib.hid (in_any m.kind 1 14)
 have C2:=Lib.hid (in_any m.node 0 65535)
 have C3:=Lib.hid (in_any m.walk 0 15)
 have C4:=Lib.hid (fun w' (f:Gr w w')=>containsFn_int 93 _ pred_int p.a1 p.c1 m.nodes w' (h.keep f).nodes)
 have C5:=Lib.hid (fun w' (f:Gr w w')=>containsFn_id 95 _ pred_id p.a2 p.c2 m.ids w' (h.keep f).ids)
 have C6:=Lib.hid (fun w' (f:Gr w w')=>containsFn_rec 97 _ pred_rec p.a3 p.c3 m.recs w' (h.keep f).recs)
 generalize inR m.kind 1 14=b1 at *
 generalize inR m.node 0 65535=b2 at *
 generalize inR m.walk 0 15=b3 at *
 generalize (m.nodes.any fun n=> !inR n 1 65535)=b4 at *
 generalize (m.ids.any fun x=> !decide (x.key.size≤64))=b5 at *
 generalize (m.recs.any fun x=> !x.right)=b6 at *
 generalize m.may=r at *
 clear h
 go_enter Tryz.func55,Tryz.ntmps55
 go_wp2_with fail
 refine (C1.out _).mono ?_
 rintro e w' ⟨rfl,rfl⟩
 cases b1
 ·obtain rfl:r=false:=by rw [HR.out];simp
  clear HR
  go_wp2_with fail
  go_ret
  exact ⟨rfl,(Fr.refl _ _).alloc _⟩
 go_wp2_with fail
 refine (C2.out _).mono ?_
 rintro e w' ⟨rfl,rfl⟩
 cases b2
 ·obtain rfl:r=false:=by rw [HR.out];simp
  clear HR
  go_wp2_with fail
  go_ret
  exact ⟨rfl,(Fr.refl _ _).alloc _⟩
 go_wp2_with fail
 refine (C3.out _).mono ?_
 rintro e w' ⟨rfl,rfl⟩
 cases b3
 ·obtain rfl:r=false:=by rw [HR.out];simp
  clear HR
  go_wp2_with fail
  go_ret
  exact ⟨rfl,(Fr.refl _ _).alloc _⟩
 by_cases l1:m.nodes.length≤64
 case neg=>
  obtain rfl:r=false:=by rw [HR.out];simp [l1]
  clear HR
  go_wp2_with fail
  go_ret
  exact ⟨rfl,(Fr.refl _ _).alloc _⟩
 by_cases l2:m.ids.length≤64
 case neg=>
  obtain rfl:r=false:=by rw [HR.out];simp [l2]
  clear HR
  go_wp2_with fail
  go_ret
  exact ⟨rfl,(Fr.refl _ _).alloc _⟩
 by_cases l3:m.recs.length≤16
 case neg=>
  obtain rfl:r=false:=by rw [HR.out];simp [l3]
  clear HR
  go_wp2_with fail
  go_ret
  exact ⟨rfl,(Fr.refl _ _).alloc _⟩
 go_wp2_with fail
 refine (C4.out _ ((Fr.refl _ _).alloc _)).mono ?_
 rintro e w1 ⟨rfl,f1⟩
 have BX:=Lib.hid (Gr.bx f1)
 have F1:=Lib.hid (((Fr.refl (fun _=>False) w).alloc _).trans f1 (fun _ h=> .inl h))
 have k5:=BX.out 5 _ rfl
 clear f1
 cases b4
 case true=>
  obtain rfl:r=false:=by rw [HR.out];simp
  clear HR
  go_wp2_with fail
  go_ret
  exact ⟨rfl,F1.out⟩
 go_wp2_with fail
 refine (C5.out _ F1.out).mono ?_
 rintro e w2 ⟨rfl,f2⟩
 have BX2:=Lib.hid (BX.out.keep f2 (fun h=>h))
 have F2:=Lib.hid (Gr.trans F1.out f2)
 clear f2 k5
 have k6:=BX2.out 6 _ rfl
 cases b5
 case true=>
  obtain rfl:r=false:=by rw [HR.out];simp
  clear HR
  go_wp2_with fail
  go_ret
  exact ⟨rfl,F2.out⟩
 go_wp2_with fail
 refine (C6.out _ F2.out).mono ?_
 rintro e w3 ⟨rfl,f3⟩
 have F3:=Lib.hid (Gr.trans F2.out f3)
 clear f3 k6
 obtain rfl:r= !b6:=by rw [HR.out];simp [l1,l2,l3]
 clear HR
 go_wp2_with fail
 go_ret
 exact ⟨rfl,F3.out⟩
end
section
open Go.RowKit Go.Proofs
theorem write1M_any (n:Nat) (F:FuncId) (rcv:Value) (w:World) (R:Ending→World→Prop) (hent:∀ a w,(callFunc F #[rcv,a]).run Tryz.prog w= .ok (.enter F #[rcv,a]) w)
  (h0:w.cell? ⟨n,0,none⟩=some (.func (.func F) #[rcv] #[])) (h2:w.cell? ⟨n+2,0,none⟩=some (.pointer (some ⟨n+1,0,none⟩))) (hc:Calls Tryz.prog F #[rcv, .pointer (some ⟨n+1,0,none⟩)] w R)
  (hR:∀ e w',R e w'→e= .returned (.tuple #[])∨∃ ch,e= .panicked ch):
  Calls Tryz.prog 100 #[.pointer (some ⟨n,0,none⟩), .pointer (some ⟨n+2,0,none⟩)] w R:=by
 go_enter Tryz.func100,Tryz.ntmps100
 go_wp2_with fail
 refine hc.mono ?_
 intro e w1 hr
 rcases hR e w1 hr with rfl | ⟨ch,rfl⟩
 ·go_wp2_with fail
  go_end0
  exact hr
 ·go_wp2_with fail
  exact ⟨rfl,hr⟩
theorem packWriteM_any (F:FuncId) (rcv:Value) (W:World) (T:Nat→Prop) (G:WOut→World→Prop) (hent:∀ a w,(callFunc F #[rcv,a]).run Tryz.prog w= .ok (.enter F #[rcv,a]) w)
  (hT:∀ k,T k→k<W.heap.size)
  (hc:∀ w,Fr (fun _=>False) W w→WrAt W.heap.size (wS W.heap.size) w (W.heap.size+1) (.pointer none) (.slice none 0 0) []→
   Calls Tryz.prog F #[rcv, .pointer (some ⟨W.heap.size+1,0,none⟩)] w fun e w'=>Fr (fun k=>wS W.heap.size k∨T k) w w'∧∃ x,WEnds W.heap.size (wS W.heap.size) (W.heap.size+1) w' x e∧G x w'):
  Calls Tryz.prog 56 #[.func (.func F) #[rcv] #[]] W fun e w'=>∃ w0 x,G x w0∧e=x.ending∧Fr (fun k=>W.heap.size≤k) w0 w'∧W.heap.size≤w0.heap.size∧Fr (fun k=>W.heap.size≤k∨T k) W w':=by
 have hmf:∀ (fn:Fn) (first cap:Array Value) (w:World),(Instr.makeFunc fn first cap).run Tryz.prog w= .ok (.func fn first cap) w:=fun _ _ _ _=>rfl
 obtain ⟨w3,hw3,hf3,hs3,b0,b1,b2⟩:=write_start W (.func (.func F) #[rcv] #[])
 have hb4:∀ k,(w3.alloc (.cells #[.int .i64 0] 39)).heap[k]?=if k=W.heap.size+3 then some (.cells #[.int .i64 0] 39) else w3.heap[k]?:=fun k=>by rw [heap_alloc_if,hs3]
 have hw4:WrAt W.heap.size (wS W.heap.size) (w3.alloc (.cells #[.int .i64 0] 39)) (W.heap.size+1) (.pointer none) (.slice none 0 0) []:=by
  refine ⟨fun k hk=> .inr (by simp [hs3] at hk;omega), .inl rfl, .inl rfl,by rw [hb4,if_neg (by omega)];exact b1,by simp [hs3];omega,World.ownsRow_nil _ _ _ _,?_,fun q hq=>by cases hq⟩
  intro k cs fr hk hS h
  have hcases:k=W.heap.size∨k=W.heap.size+2∨k=W.heap.size+3:=by
   unfold wS at hS;omega
  rw [hb4] at h
  rcases hcases with rfl | rfl | rfl
  ·rw [if_neg (by omega),b0] at h;simp at h
  ·rw [if_neg (by omega),b2] at h;simp at h
  ·rw [if_pos rfl] at h;simp at h
 have hf4:=hf3.alloc (.cells #[.int .i64 0] 39)
 have hcall:=write1M_any W.heap.size F rcv (w3.alloc (.cells #[.int .i64 0] 39)) _ hent
  (by rw [World.cell?,hb4,if_neg (by simp),b0];rfl) (by rw [World.cell?,hb4,if_neg (by simp),b2];rfl) (hc _ hf4 hw4)
  (by rintro e w' ⟨_,x,hx,_⟩;cases hx;exact .inl rfl;exact .inr ⟨_,rfl⟩;exact .inr ⟨_,rfl⟩)
 have hrun:=run_any 100 #[.pointer (some ⟨W.heap.size,0,none⟩), .pointer (some ⟨W.heap.size+2,0,none⟩)] w3 _ (fun w=>enters_fn Tryz.func100 (by kernel_rfl) rfl _ w) hcall
  (by
   rintro e w' ⟨hf,x,hx,_⟩
   have hr:¬ (wS W.heap.size (W.heap.size+3)∨T (W.heap.size+3)):=by
    intro h;rcases h with h | h
    ·unfold wS at h;omega
    ·have:=hT _ h;omega
   rw [hs3]
   have c4:(w3.alloc (.cells #[.int .i64 0] 39)).cell? ⟨W.heap.size+3,0,none⟩=some (.int .i64 0):=by rw [World.cell?,hb4,if_pos rfl];rfl
   refine ⟨hf.cell c4 hr,by rw [hf.frozen c4 hr,World.frozen?,hb4,if_pos rfl];rfl,?_⟩
   cases hx with
   | ok l=>exact ⟨_,_, .ret⟩
   | ref c=>exact ⟨_,_, .ref c⟩
   | other s=>exact ⟨_,_, .other s⟩)
 have k2:∀ w',Fr (fun k=>wS W.heap.size k∨T k) (w3.alloc (.cells #[.int .i64 0] 39)) w'→w'.cell? ⟨W.heap.size+1+1,0,none⟩=some (.pointer (some ⟨W.heap.size+1,0,none⟩)):=by
  intro w' hf
  refine hf.cell (p:=⟨W.heap.size+2,0,none⟩) (by rw [World.cell?,hb4,if_neg (by simp),b2];rfl) ?_
  intro h;rcases h with h | h
  ·unfold wS at h;simp only at h;omega
  ·have:=hT _ h;simp only at this;omega
 have K2:=Lib.hid k2;clear k2
 have HR:=Lib.hid hrun;clear hrun
 have HF4:=Lib.hid hf4;clear hf4
 have HB4:=Lib.hid hb4;clear hb4
 clear hcall hw4 hc b0 b1 b2
 go_enter Tryz.func56,Tryz.ntmps56
 go_wp2_with fail
 rw [←hw3]
 refine HR.out.mono ?_
 rw [hs3]
 rintro e w5 ⟨e0,w0,⟨hf0,x,hx,hg⟩,hend⟩
 have hs0:=hf0.size
 simp only [World.size_alloc,hs3] at hs0
 have hW0:Fr (fun k=>W.heap.size≤k∨T k) W w0:=(HF4.out.mono (T:=fun k=>W.heap.size≤k∨T k) (by intro k hk h;exact h.elim)).trans hf0 (by
  intro k hk
  left
  rcases hk with hk | hk
  ·unfold wS at hk;left;omega
  ·right;exact hk)
 have hkk:=K2.out w0 hf0
 have hn3:w0.heap[W.heap.size+3]?=some (.cells #[.int .i64 0] 39 (0,0)):=by
  rw [hf0.block (W.heap.size+3) (by simp [hs3]) (by
   intro h;rcases h with h | h
   ·unfold wS at h;omega
   ·have:=hT _ h;omega),HB4.out,if_pos rfl]
 have HG:=Lib.hid hg;clear hg
 have HW0:=Lib.hid hW0;clear hW0
 have HN3:=Lib.hid hn3;clear hn3
 clear hf0 HF4 HB4 K2 HR hw3 hf3
 cases hx with
 | ok l p v hwr=>
  cases hend with
  | ret=>
   have hf5:Fr (fun k=>k=W.heap.size+3) w0 (w0.setCell ⟨W.heap.size+3,0,none⟩ (.int .i64 0)):=(Fr.refl (fun k=>k=W.heap.size+3) w0).setCell (p:=⟨W.heap.size+3,0,none⟩) (.inl rfl) _
   have hk5:=hf5.cell hkk (by simp)
   have hw5:=hwr.keep hf5 (by intro k hk h1 h2;unfold wS at h2;omega) (by
    intro k hk h1 h2 cs fr h3
    subst h1
    simp [World.setCell,Array.getElem?_modify,HN3.out] at h3)
   have HW5:=Lib.hid hw5;clear hw5
   have HF5:=Lib.hid hf5;clear hf5
   clear hwr hkk
   go_wp2_with fail
   refine (string_any _ _ _ _ _ _ l HW5.out).mono ?_
   rintro e w6 ⟨rfl,hf6⟩
   go_wp2_with fail
   go_ret2
   have h06:Fr (fun k=>W.heap.size≤k) w0 w6:=(HF5.out.mono (T:=fun k=>W.heap.size≤k) (by intro k hk h;omega)).trans hf6 (by intro k hk;left;unfold wS at hk;omega)
   exact ⟨w0, .ok l,HG.out,rfl,h06,by omega,HW0.out.trans h06 (by intro k hk;exact .inl (.inl hk))⟩
 | ref c hc0=>
  cases hend with
  | ref c=>
   have hlt:W.heap.size+3<w0.heap.size:=by omega
   have h06:Fr (fun k=>W.heap.size≤k) w0 ((w0.setCell ⟨W.heap.size+3,0,none⟩ (.int .i64 c)).alloc (.cells #[.int .i64 c] 213)):=((Fr.refl (fun k=>W.heap.size≤k) w0).setCell (p:=⟨W.heap.size+3,0,none⟩) (.inl (by simp)) _).alloc _
   have H06:=Lib.hid h06;clear h06
   go_wp2_with fail
   go_ret2
   exact ⟨w0, .ref c,HG.out,rfl,H06.out,by omega,HW0.out.trans H06.out (by intro k hk;exact .inl (.inl hk))⟩
 | other s=>
  cases hend with
  | other s=>
   go_wp2_with fail
   exact ⟨rfl,_, .other s,HG.out,rfl,Fr.refl _ _,by omega,HW0.out⟩
theorem read1M_any (n:Nat) (F:FuncId) (rcv:Value) (w:World) (R:Ending→World→Prop) (hent:∀ a w,(callFunc F #[rcv,a]).run Tryz.prog w= .ok (.enter F #[rcv,a]) w)
  (h0:w.cell? ⟨n,0,none⟩=some (.func (.func F) #[rcv] #[])) (h2:w.cell? ⟨n+2,0,none⟩=some (.pointer (some ⟨n+1,0,none⟩))) (hc:Calls Tryz.prog F #[rcv, .pointer (some ⟨n+1,0,none⟩)] w R)
  (hR:∀ e w',R e w'→e= .returned (.tuple #[])∨∃ ch,e= .panicked ch):
  Calls Tryz.prog 132 #[.pointer (some ⟨n,0,none⟩), .pointer (some ⟨n+2,0,none⟩)] w R:=by
 go_enter Tryz.func132,Tryz.ntmps132
 go_wp2_with fail
 refine hc.mono ?_
 intro e w1 hr
 rcases hR e w1 hr with rfl | ⟨ch,rfl⟩
 ·go_wp2_with fail
  go_end0
  exact hr
 ·go_wp2_with fail
  exact ⟨rfl,hr⟩
theorem packReadM_any (s:ByteArray) (F:FuncId) (rcv:Value) (W:World) (T:Nat→Prop) (G:ROut→World→Prop) (hs:s.size≤9223372036854775807) (hent:∀ a w,(callFunc F #[rcv,a]).run Tryz.prog w= .ok (.enter F #[rcv,a]) w)
  (hT:∀ k,T k→k<W.heap.size)
  (hc:∀ w,Fr (fun _=>False) W w→W.heap.size+4≤w.heap.size→RdAt w (W.heap.size+1) s→
   Calls Tryz.prog F #[rcv, .pointer (some ⟨W.heap.size+1,0,none⟩)] w fun e w'=>Fr (fun k=>wS W.heap.size k∨T k) w w'∧∃ x,REnds (W.heap.size+1) w' x e∧G x w'):
  Calls Tryz.prog 126 #[.string s, .func (.func F) #[rcv] #[]] W fun e w'=>∃ w0 x,G x w0∧e=x.ending∧Fr (fun k=>k=W.heap.size+3) w0 w'∧W.heap.size≤w0.heap.size∧Fr (fun k=>W.heap.size≤k∨T k) W w':=by
 have hmf:∀ (fn:Fn) (first cap:Array Value) (w:World),(Instr.makeFunc fn first cap).run Tryz.prog w= .ok (.func fn first cap) w:=fun _ _ _ _=>rfl
 obtain ⟨w3,hw3,hf3,hs3,b0,b1,b2⟩:=read_start W s (.func (.func F) #[rcv] #[])
 have hb4:∀ k,(w3.alloc (.cells #[.int .i64 0] 39)).heap[k]?=if k=W.heap.size+3 then some (.cells #[.int .i64 0] 39) else w3.heap[k]?:=fun k=>by rw [heap_alloc_if,hs3]
 have hw4:RdAt (w3.alloc (.cells #[.int .i64 0] 39)) (W.heap.size+1) s:=
  ⟨by rw [World.cell?,hb4,if_neg (by simp),b1];rfl,by rw [World.frozen?,hb4,if_neg (by simp),b1];rfl,hs⟩
 have hf4:=hf3.alloc (.cells #[.int .i64 0] 39)
 have hcall:=read1M_any W.heap.size F rcv (w3.alloc (.cells #[.int .i64 0] 39)) _ hent
  (by rw [World.cell?,hb4,if_neg (by simp),b0];rfl) (by rw [World.cell?,hb4,if_neg (by simp),b2];rfl) (hc _ hf4 (by simp [hs3]) hw4)
  (by rintro e w' ⟨_,x,hx,_⟩;cases hx;exact .inl rfl;exact .inr ⟨_,rfl⟩;exact .inr ⟨_,rfl⟩)
 have hrun:=run_any 132 #[.pointer (some ⟨W.heap.size,0,none⟩), .pointer (some ⟨W.heap.size+2,0,none⟩)] w3 _ (fun w=>enters_fn Tryz.func132 (by kernel_rfl) rfl _ w) hcall
  (by
   rintro e w' ⟨hf,x,hx,_⟩
   have hr:¬ (wS W.heap.size (W.heap.size+3)∨T (W.heap.size+3)):=by
    intro h;rcases h with h | h
    ·unfold wS at h;omega
    ·have:=hT _ h;omega
   rw [hs3]
   have c4:(w3.alloc (.cells #[.int .i64 0] 39)).cell? ⟨W.heap.size+3,0,none⟩=some (.int .i64 0):=by rw [World.cell?,hb4,if_pos rfl];rfl
   refine ⟨hf.cell c4 hr,by rw [hf.frozen c4 hr,World.frozen?,hb4,if_pos rfl];rfl,?_⟩
   cases hx with
   | ok l=>exact ⟨_,_, .ret⟩
   | ref c=>exact ⟨_,_, .ref c⟩
   | other s=>exact ⟨_,_, .other s⟩)
 have k2:∀ w',Fr (fun k=>wS W.heap.size k∨T k) (w3.alloc (.cells #[.int .i64 0] 39)) w'→w'.cell? ⟨W.heap.size+1+1,0,none⟩=some (.pointer (some ⟨W.heap.size+1,0,none⟩)):=by
  intro w' hf
  refine hf.cell (p:=⟨W.heap.size+2,0,none⟩) (by rw [World.cell?,hb4,if_neg (by simp),b2];rfl) ?_
  intro h;rcases h with h | h
  ·unfold wS at h;simp only at h;omega
  ·have:=hT _ h;simp only at this;omega
 have K2:=Lib.hid k2;clear k2
 have HR:=Lib.hid hrun;clear hrun
 have HF4:=Lib.hid hf4;clear hf4
 have HB4:=Lib.hid hb4;clear hb4
 clear hcall hw4 hc b0 b1 b2
 go_enter Tryz.func126,Tryz.ntmps126
 go_wp2_with fail
 rw [←hw3]
 refine HR.out.mono ?_
 rw [hs3]
 rintro e w5 ⟨e0,w0,⟨hf0,x,hx,hg⟩,hend⟩
 have hs0:=hf0.size
 simp only [World.size_alloc,hs3] at hs0
 have hW0:Fr (fun k=>W.heap.size≤k∨T k) W w0:=(HF4.out.mono (T:=fun k=>W.heap.size≤k∨T k) (by intro k hk h;exact h.elim)).trans hf0 (by
  intro k hk
  left
  rcases hk with hk | hk
  ·unfold wS at hk;left;omega
  ·right;exact hk)
 have hkk:=K2.out w0 hf0
 have hn3:w0.heap[W.heap.size+3]?=some (.cells #[.int .i64 0] 39 (0,0)):=by
  rw [hf0.block (W.heap.size+3) (by simp [hs3]) (by
   intro h;rcases h with h | h
   ·unfold wS at h;omega
   ·have:=hT _ h;omega),HB4.out,if_pos rfl]
 have HG:=Lib.hid hg;clear hg
 have HW0:=Lib.hid hW0;clear hW0
 have HN3:=Lib.hid hn3;clear hn3
 clear hf0 HF4 HB4 K2 HR hw3 hf3
 cases hx with
 | ok rest hrd=>
  cases hend with
  | ret=>
   have hf5:Fr (fun k=>k=W.heap.size+3) w0 (w0.setCell ⟨W.heap.size+3,0,none⟩ (.int .i64 0)):=(Fr.refl (fun k=>k=W.heap.size+3) w0).setCell (p:=⟨W.heap.size+3,0,none⟩) (.inl rfl) _
   have hk5:=hf5.cell hkk (by simp)
   have hr5:=hf5.cell hrd.1 (by simp)
   have H06:=Lib.hid hf5
   clear hrd hkk hf5
   by_cases hz:rest.size=0
   ·have hz':rest=ByteArray.empty:=by
     apply ByteArray.ext;apply Array.eq_empty_of_size_eq_zero;exact hz
    subst hz'
    go_wp2_with fail
    go_ret
    exact ⟨w0, .ok ByteArray.empty,HG.out,by simp [ROut.ending],H06.out,by omega,HW0.out.trans H06.out (by intro k hk;exact .inl (.inl (by omega)))⟩
   ·have hq:rest.toList.isEmpty=false:=by
     rw [ByteArray.toList_eq]
     cases hl:rest.data.toList with
     | nil=>exact absurd (by rw [←ByteArray.size_data, ←Array.length_toList,hl];rfl) hz
     | cons _ _=>rfl
    go_wp2_with fail
    go_ret
    exact ⟨w0, .ok rest,HG.out,by simp [ROut.ending,hz],H06.out,by omega,HW0.out.trans H06.out (by intro k hk;exact .inl (.inl (by omega)))⟩
 | ref c hc0=>
  cases hend with
  | ref c=>
   have hlt:W.heap.size+3<w0.heap.size:=by omega
   have h06:Fr (fun k=>k=W.heap.size+3) w0 ((w0.setCell ⟨W.heap.size+3,0,none⟩ (.int .i64 c)).alloc (.cells #[.int .i64 c] 213)):=((Fr.refl (fun k=>k=W.heap.size+3) w0).setCell (p:=⟨W.heap.size+3,0,none⟩) (.inl rfl) _).alloc _
   have H06:=Lib.hid h06;clear h06
   go_wp2_with fail
   go_ret
   exact ⟨w0, .ref c,HG.out,rfl,H06.out,by omega,HW0.out.trans H06.out (by intro k hk;exact .inl (.inl (by omega)))⟩
 | other s=>
  cases hend with
  | other s=>
   go_wp2_with fail
   exact ⟨rfl,_, .other s,HG.out,rfl,Fr.refl _ _,by omega,HW0.out⟩
end
end Go.Proofs.YtelepohdfcjnfaaGreat
