/-
  Words of the walk of OverlayPairs: five overlays, twenty-five ways.
-/
import Derived.Test.YtelepohdfcjnfaaGreatZOverBrk
import Derived.Test.YtelepohdfcjnfaaGreatZViewSn
import Derived.Test.YtelepohdfcjnfaaGreatZMsgWrite
import Derived.Test.YtelepohdfcjnfaaGreatZOwn
namespace Go.Proofs.YtelepohdfcjnfaaGreat
open Go.RowKit Go.Proofs
def wsN (k:Nat) (v:Nat→Value):Array Value:=((List.range k).map v).toArray
theorem wsN_size (k:Nat) (v:Nat→Value):(wsN k v).size=k:=by unfold wsN;simp
theorem wsN_get {k:Nat} (v:Nat→Value) {m:Nat} (hm:m<k):(wsN k v)[m]?=some (v m):=by
 unfold wsN
 rw [List.getElem?_toArray,List.getElem?_map,List.getElem?_range hm]
 rfl
theorem wsN_put {k:Nat} (v:Nat→Value) {m:Nat} (hm:m<k) (u:Value):putAt (wsN k v) m #[u]=wsN k (upd v m u):=by
 unfold putAt wsN
 rw [←set_mapO v k m u,List.set_eq_take_append_cons_drop,if_pos (by simpa using hm)]
 rfl
structure Ol where
 brk:Bool
 m:Mq
 na:Option Addr
 nc:Nat
def Ol.cells (x:Ol):List Value:=[.bool x.brk, .int .i64 x.m.kind, .int .i64 x.m.node, .int .i64 x.m.walk, .bool x.m.high, .slice x.na x.m.nodes.length x.nc, .slice none 0 0, .slice none 0 0]
def Ol.row (x:Ol):Rw:=⟨x.na,x.m.nodes.length,x.nc,ints x.m.nodes⟩
def Mq.msg (m:Mq):Msg:=⟨m.kind,m.node,m.walk,m.high,m.nodes,[],[]⟩
theorem flatMap_two (l:List Int):(l.flatMap (numB 2)).length=l.length * 2:=by
 induction l with
 | nil=>rfl
 | cons x r ih=>rw [List.flatMap_cons,List.length_append,ih,numB_length,List.length_cons];omega
end Go.Proofs.YtelepohdfcjnfaaGreat
