/-
  Overlays in plain Lean: configs, a tick.
-/
import Derived.Test.YtelepohdfcjnfaaGreatZPairLaw
import Derived.Test.YtelepohdfcjnfaaGreatZMixSmp
namespace Go.Proofs.YtelepohdfcjnfaaGreat
open Go.RowKit Go.Proofs
structure Cf where
 active:Int
 passive:Int
 far:Int
 near:Int
 mixA:Int
 mixP:Int
 every:Int
 seeds:List Int
def cIn (n a b:Int):Bool:=decide (a≤n)&&decide (n≤b)
def cGood (c:Cf):Bool:=cIn c.active 2 64&&cIn c.passive 1 64&&cIn c.far 0 15&&cIn c.near 0 15&&cIn c.mixA 0 64&&cIn c.mixP 0 64&&cIn c.every 1 1000&&decide ((c.seeds.length:Int)≤64)&& !(c.seeds.any (fun n=> !cIn n 1 65535))
structure Ov where
 c:Cf
 h:Hd
 ticks:Int
 seed:Int
structure Ms where
 who:Int
 kind:Int
 node:Int
 walk:Int
 high:Bool
 nodes:List Int
def Ho.ms (x:Ho):Ms:=⟨x.who,x.kind,0,0,x.high,[]⟩
def oNew (self:Int) (c:Cf):Ov:=⟨{ c with seeds:=kept (fun n=>n==self) c.seeds },hNew self c.active c.passive,0,0⟩
def oAsk (o:Ov) (n:Int) (high:Bool):Ov×List Ho:=({ o with h:=(hAsk o.h n high).1 },(hAsk o.h n high).2)
def Ho.joins (x:Ho):Ho:=⟨x.who,1,x.high⟩
def oSeed (o:Ov):Int:=o.c.seeds.getD (o.seed.tmod o.c.seeds.length).toNat 0
def oJoin (o:Ov):Ov×List Ho:=
 if o.c.seeds=[] then (o,[]) else
  ((oAsk { o with seed:=(o.seed+1).tmod o.c.seeds.length } (oSeed o) false).1,(oAsk { o with seed:=(o.seed+1).tmod o.c.seeds.length } (oSeed o) false).2.map Ho.joins)
def oFill (o:Ov) (ds:List Int):Ov×List Ho×List Int:=
 if vaFull o.h.v=true then (o,[],ds) else
  if 0<o.h.asked.length then (o,[],ds) else
   if (oneV ds o.h.v.pas).2.1=true then ((oAsk o (oneV ds o.h.v.pas).1 (o.h.v.act.length==0)).1,(oAsk o (oneV ds o.h.v.pas).1 (o.h.v.act.length==0)).2,(oneV ds o.h.v.pas).2.2) else
    if 0<o.h.v.act.length then (o,[],(oneV ds o.h.v.pas).2.2) else ((oJoin o).1,(oJoin o).2,(oneV ds o.h.v.pas).2.2)
def oStart (v:Vw) (sa sp left:Int) (ds:List Int):List Ms×List Int:=
 if v.act=[] then ([],ds) else ([⟨(oneV ds v.act).1,7,v.self,min (max left 0) 15,false,(mixS v sa sp (oneV ds v.act).2.2).1⟩],(mixS v sa sp (oneV ds v.act).2.2).2)
def oTick (o:Ov) (ds:List Int):Ov×List Ms×List Int:=
 if (((oFill o ds).1.ticks+1).tmod (oFill o ds).1.c.every==0)=true then
  ({ (oFill o ds).1 with ticks:=((oFill o ds).1.ticks+1).tmod (oFill o ds).1.c.every },(oFill o ds).2.1.map Ho.ms++(oStart (oFill o ds).1.h.v (oFill o ds).1.c.mixA (oFill o ds).1.c.mixP (oFill o ds).1.c.far (oFill o ds).2.2).1,(oStart (oFill o ds).1.h.v (oFill o ds).1.c.mixA (oFill o ds).1.c.mixP (oFill o ds).1.c.far (oFill o ds).2.2).2)
 else ({ (oFill o ds).1 with ticks:=((oFill o ds).1.ticks+1).tmod (oFill o ds).1.c.every },(oFill o ds).2.1.map Ho.ms,(oFill o ds).2.2)
structure Ov.Ok (o:Ov):Prop where
 h:o.h.Good
 every:1≤o.c.every∧o.c.every≤1000
 mixA:0≤o.c.mixA∧o.c.mixA≤64
 mixP:0≤o.c.mixP∧o.c.mixP≤64
 far:0≤o.c.far∧o.c.far≤15
 near:0≤o.c.near∧o.c.near≤15
 len:o.c.seeds.length≤64
 ticks:0≤o.ticks∧o.ticks≤1000
 seed:0≤o.seed∧o.seed≤64
theorem hAsk_good {h:Hd} (g:h.Good) (n:Int) (high:Bool):(hAsk h n high).1.Good:=by
 unfold hAsk
 split
 ·exact ⟨g.v,g.asked.add n⟩
 ·exact g
theorem Ov.Ok.ask {o:Ov} (k:o.Ok) (n:Int) (high:Bool):(oAsk o n high).1.Ok:=⟨hAsk_good k.h n high,k.every,k.mixA,k.mixP,k.far,k.near,k.len,k.ticks,k.seed⟩
theorem tmod_pos {x m:Int} (h0:0≤x) (hm:0<m):0≤x.tmod m∧x.tmod m<m:=⟨Int.tmod_nonneg m h0,Int.tmod_lt_of_pos x hm⟩
theorem Ov.Ok.next {o:Ov} (k:o.Ok) (hs:o.c.seeds≠[]):Ov.Ok { o with seed:=(o.seed+1).tmod o.c.seeds.length }:=by
 have hl:0<o.c.seeds.length:=List.length_pos_iff.2 hs
 have h1:=tmod_pos (x:=o.seed+1) (m:=o.c.seeds.length) (by have:=k.seed;omega) (by omega)
 have:=k.len
 exact ⟨k.h,k.every,k.mixA,k.mixP,k.far,k.near,k.len,k.ticks,by simp only;omega⟩
theorem Ov.Ok.join {o:Ov} (k:o.Ok):(oJoin o).1.Ok:=by
 unfold oJoin
 split
 ·exact k
 ·rename_i hs
  exact (k.next hs).ask _ _
theorem Ov.Ok.fill {o:Ov} (k:o.Ok) (ds:List Int):(oFill o ds).1.Ok:=by
 unfold oFill
 split
 ·exact k
 ·split
  ·exact k
  ·split
   ·exact k.ask _ _
   ·split
    ·exact k
    ·exact k.join
theorem Ov.Ok.tick {o:Ov} (k:o.Ok) (ds:List Int):(oTick o ds).1.Ok:=by
 have k1:=k.fill ds
 have h1:=tmod_pos (x:=(oFill o ds).1.ticks+1) (m:=(oFill o ds).1.c.every) (by have:=k1.ticks;omega) (by have:=k1.every;omega)
 have h2:=k1.every
 unfold oTick
 split
 ·exact ⟨k1.h,k1.every,k1.mixA,k1.mixP,k1.far,k1.near,k1.len,by simp only;omega,k1.seed⟩
 ·exact ⟨k1.h,k1.every,k1.mixA,k1.mixP,k1.far,k1.near,k1.len,by simp only;omega,k1.seed⟩
theorem hAsk_one (h:Hd) (n:Int) (high:Bool):(hAsk h n high).2.length≤1:=by unfold hAsk;split<;>simp
theorem oFill_one (o:Ov) (ds:List Int):(oFill o ds).2.1.length≤1:=by
 unfold oFill
 split
 ·exact Nat.zero_le _
 ·split
  ·exact Nat.zero_le _
  ·split
   ·exact hAsk_one _ _ _
   ·split
    ·exact Nat.zero_le _
    ·unfold oJoin
     split
     ·exact Nat.zero_le _
     ·simp only [List.length_map]
      exact hAsk_one _ _ _
end Go.Proofs.YtelepohdfcjnfaaGreat
