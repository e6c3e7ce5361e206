import Derived.WalkKit
import Derived.WalkMore
import Derived.Deep.RegionWith
import Derived.Deep.RegionHeld
import Derived.Deep.LoopGhost
import Derived.Laws.Append
import Derived.Maps.AppendAt
import Derived.Test.YtlkkebfjmbfgpaaGreatDoorProg
import Derived.Shelf.RegionOpenPlain
import Derived.Lib.Strings
import Derived.Lib.Slices
import Derived.Lib.Walk
import Derived.Lib.Builder
import Derived.Lib.AppendStr
import Derived.Lib.UnsafeStr
import Derived.Lib.MakeNoZero
import Derived.Laws.Externs
import Derived.Laws.IdiomCopy
import Derived.Laws.BitsLemmas
import Derived.RangeFuncBox
import Derived.RangeFuncLeaves
import Derived.RangeFuncFrom
import Derived.Shelf.Abstract
import Derived.Shelf.RegionOpen
import Derived.OwnWalkIn
import Derived.TacticsInMore
import Derived.LoopNIn
import Derived.LoopIn
import Derived.RangeFuncBound
import Derived.Maps.Own
import Derived.Maps.OwnSet
import Derived.StringKeys
import Derived.OwnWalk
import Derived.Maps.RangeWalk
import Derived.Recover
import Derived.Defers
import Derived.Maps.OwnIn
import Derived.Sort.KeysCollected
import Derived.Sort.OwnSorted
import Derived.LaidEql
import Derived.Stop.Asserts
import Derived.RowKitTokens
import Derived.Laws.ResultCell
import Derived.Laws.CopyRow
import Derived.Test.YtlkkebfjmbfgpaaGreatDoorRows
import Derived.ProofKit
import Derived.OpenShut
import Derived.SizedLaws
import Derived.LaidLaws
import Derived.LaidHandle
import Derived.Stop.Joined
import Derived.Test.YtlkkebfjmbfgpaaGreatDoorCards
import Derived.Test.YtlkkebfjmbfgpaaGreatDoorTie
import Derived.Test.YtlkkebfjmbfgpaaGreatDoorPrCEvT1
import Derived.Test.YtlkkebfjmbfgpaaGreatDoorPrCEvT2
import Derived.Test.YtlkkebfjmbfgpaaGreatDoorPrCEvT3
import Derived.Test.YtlkkebfjmbfgpaaGreatDoorPrCShelf
import Derived.Test.YtlkkebfjmbfgpaaGreatDoorPrCEvFA
import Derived.Test.YtlkkebfjmbfgpaaGreatDoorPrCEvExt
import Derived.Test.YtlkkebfjmbfgpaaGreatDoorPrCEvFB
import Derived.Test.YtlkkebfjmbfgpaaGreatDoorPrCEvFC
import Derived.Test.YtlkkebfjmbfgpaaGreatDoorPrCEvFD
import Derived.Test.YtlkkebfjmbfgpaaGreatDoorPrCEvFZ
namespace Go.Proofs
open Go Go.RowKit
theorem wp_append {P:Program} {o:Oper} {a:Act} {w w':World} {K:Act→World→Prop} {Q:Exit→Act→World→Prop} {s x:Operand} {t:TypeId} {v y v':Value}
    (ho:o.op=.call { callee:=.builtin .append,args:=#[s,x],argTypes:=#[t,t] }) (hs:a.eval s=v) (hx:a.eval x=y)
    (hr:(Builtin.append_ #[t,t] o.type #[v,y]).run P w=.ok v' w') (h:K (a.put o.dst v') w'):o.wp P a w K Q:=by
  unfold Oper.wp execOp
  simp only [ho,resolve,invoke,builtin,Sem.run_bind,Sem.run_pure,Result.andThen_ok,List.map_toArray,List.map_cons,List.map_nil,hs,hx,hr]
  exact h
theorem cell_drew (w:World) (a:Addr):w.drew.cell? a=w.cell? a:=rfl
theorem cell_set {w:World} {a b:Addr} {u v:Value} (h:w.cell? a=some u) (hv:a=b→v=u):(w.setCell b v).cell? a=some u:=by
  by_cases e:a=b
  · rw [hv e,e]; exact World.cell?_setCell_same _ _ _ (e ▸ h)
  · rw [World.cell?_setCell_other _ _ _ _ (fun x=>e x.symm)]; exact h
theorem frozen_drew (w:World) (a:Addr):w.drew.frozen? a=w.frozen? a:=rfl
theorem grownBy_drew (w:World) (r:Option Nat):w.grownBy w.drew r:=⟨rfl,rfl,rfl,Nat.le_refl _,fun _ _ _=>rfl⟩
theorem grownBy_alloc (w:World) (o:Obj) (r:Option Nat):w.grownBy (w.alloc o) r:=⟨rfl,rfl,rfl,by simp,fun k hk _=>(Go.MapKept.heap_alloc w o).2 k hk⟩
theorem setCell_old {w:World} {b i:Nat} {v:Value} {k:Nat} (h:k≠b):(w.setCell ⟨b,i,none⟩ v).heap[k]?=w.heap[k]?:=by
  simp [World.setCell,Array.getElem?_modify,Ne.symm h]
theorem grownBy_set (w:World) (b i:Nat) (v:Value):w.grownBy (w.setCell ⟨b,i,none⟩ v) (some b):=⟨rfl,rfl,rfl,by simp,fun k _ h=>setCell_old (fun e=>h (by rw [e]))⟩
theorem below_drew (n:Nat) (w:World):Below n w w.drew:=⟨rfl,rfl,rfl,Nat.le_refl _,fun _ _=>rfl⟩
theorem below_le {m n:Nat} {w w':World} (h:Below m w w') (hn:n≤m):Below n w w':=⟨h.os,h.tape,h.output,h.size,fun k hk=>h.block k (Nat.lt_of_lt_of_le hk hn)⟩
theorem grownBy_any {w w':World} (h:w.grownBy w' none) (r:Option Nat):w.grownBy w' r:=⟨h.os,h.tape,h.output,h.size,fun k hk _=>h.block k hk (by simp)⟩
theorem grownBy_of_below {w w':World} (h:Below w.heap.size w w') (r:Option Nat):w.grownBy w' r:=⟨h.os,h.tape,h.output,h.size,fun k hk _=>h.block k hk⟩
theorem below_of_grownBy {w w':World} (h:w.grownBy w' none):Below w.heap.size w w':=⟨h.os,h.tape,h.output,h.size,fun k hk=>h.block k hk (by simp)⟩
theorem below_of_grownBy_past {n:Nat} {w w':World} {r:Nat} (h:w.grownBy w' (some r)) (hn:n≤r) (hs:n≤w.heap.size):Below n w w':=⟨h.os,h.tape,h.output,h.size,fun k hk=>h.block k (by omega) (fun e=>by cases e; omega)⟩
end Go.Proofs

namespace Go.Proofs
open Go Go.RowKit
theorem Tryz.sizeBuilder:(Tryz.prog.info? 109).map (·.size)=some 2:=by kernel_rfl
def Tryz.BuiltT (T:TypeId):Prop:=liesAt Tryz.prog Tryz.prog.depth T (2 / Tryz.prog.cellsOf T) 0 109 1=true
theorem Tryz.built109:Tryz.BuiltT 109:=by unfold Tryz.BuiltT; kernel_rfl
theorem Tryz.built139:Tryz.BuiltT 139:=by unfold Tryz.BuiltT; kernel_rfl
theorem Tryz.noEscape (x:Value) (w:World):(callFunc 153 #[x]).run Tryz.prog w=.ok (Next.value x) w:=by kernel_rfl
set_option maxHeartbeats 1000000 in
set_option maxRecDepth 100000 in
theorem Tryz.copyCheck_used (b:Nat) (w:World) (h0:w.cell? ⟨b,0,none⟩=some (.pointer (some ⟨b,0,none⟩))) :
    Calls Tryz.prog 91 #[.pointer (some ⟨b,0,none⟩)] w fun e w'=>e=.returned (.tuple #[])∧w'=w:=by
  obtain ⟨j,hj,_⟩:=Option.map_eq_some_iff.1 Tryz.sizeBuilder
  go_enter Tryz.func91,Tryz.ntmps91
  go_wp2
  rw [Lib.run_neq_ptr_same w _ Tryz.underlying107 hj]
  go_wp2
  go_end0
  exact ⟨rfl,rfl⟩
set_option maxHeartbeats 1000000 in
set_option maxRecDepth 100000 in
theorem Tryz.copyCheck_fresh {T:TypeId} (hT:Tryz.BuiltT T) (b:Nat) (w:World) (h0:w.cell? ⟨b,0,none⟩=some (.pointer none)) (hsh:w.shape? b=some (T,2)) (hfz:w.frozen? ⟨b,0,none⟩=false) :
    Calls Tryz.prog 91 #[.pointer (some ⟨b,0,none⟩)] w fun e w'=>e=.returned (.tuple #[])∧w'=w.setCell ⟨b,0,none⟩ (.pointer (some ⟨b,0,none⟩)):=by
  obtain ⟨j,hj,hjs⟩:=Option.map_eq_some_iff.1 Tryz.sizeBuilder
  have hne:=Tryz.noEscape
  go_enter Tryz.func91,Tryz.ntmps91
  go_wp2
  rw [Lib.run_to_unsafe w ⟨b,0,none⟩ Tryz.underlying107 Tryz.underlying227 hj (by rw [hjs]; decide) hsh (Nat.zero_lt_succ 1)]
  simp only [Result.andThen]
  rw [Oper.upon_value]
  go_wp2
  rw [Lib.run_from_unsafe w ⟨b,0,none⟩ Tryz.underlying227 Tryz.underlying107 hj hsh hT]
  simp only [Result.andThen]
  rw [Oper.upon_value]
  go_wp2
  go_end0
  exact ⟨rfl,rfl⟩
def Tryz.NotRow (b:Nat) (w w':World):Prop:=w.heap.size≤w'.heap.size∧∀ k,k < w.heap.size→k≠b→(∀ cur,w.heap[k]?≠some (.cells cur 5 (0,0)))→w'.heap[k]?=w.heap[k]?
theorem Tryz.NotRow.refl (b:Nat) (w:World):Tryz.NotRow b w w:=⟨Nat.le_refl _,fun _ _ _ _=>rfl⟩
theorem Tryz.NotRow.trans {b:Nat} {w w' w'':World} (h:Tryz.NotRow b w w') (k:Tryz.NotRow b w' w''):Tryz.NotRow b w w'' :=
  ⟨Nat.le_trans h.1 k.1,fun i hi hb hr=>(k.2 i (Nat.lt_of_lt_of_le hi h.1) hb (fun cur=>by rw [h.2 i hi hb hr]; exact hr cur)).trans (h.2 i hi hb hr)⟩
theorem Tryz.NotRow.below {b:Nat} {w w':World} (h:Below w.heap.size w w'):Tryz.NotRow b w w':=⟨h.size,fun i hi _ _=>h.block i hi⟩
theorem Tryz.NotRow.set (b i:Nat) (v:Value) (w:World):Tryz.NotRow b w (w.setCell ⟨b,i,none⟩ v):=⟨by simp,fun _ _ hb _=>setCell_old hb⟩
theorem Tryz.copyCheck {T:TypeId} (hT:Tryz.BuiltT T) (B b:Nat) (bs:List Value) (w:World) (h:Lib.IsBuilder T 5 B b bs w) :
    Calls Tryz.prog 91 #[.pointer (some ⟨b,0,none⟩)] w fun e w'=>e=.returned (.tuple #[])∧(Lib.BuilderAt T 5 B b (.pointer (some ⟨b,0,none⟩)) bs w'∧Below B w w'∧Tryz.NotRow b w w'):=by
  rcases h with h | h
  · refine (Tryz.copyCheck_fresh hT b w h.cell0 h.shape h.frozen0).mono ?_
    rintro e w' ⟨rfl,rfl⟩
    exact ⟨rfl,h.used _,(Below.refl B w).setCell (p:=⟨b,0,none⟩) h.1 _,Tryz.NotRow.set _ _ _ _⟩
  · refine (Tryz.copyCheck_used b w h.cell0).mono ?_
    rintro e w' ⟨rfl,rfl⟩
    exact ⟨rfl,h,Below.refl B _,Tryz.NotRow.refl _ _⟩
theorem Tryz.infoByte:(Tryz.prog.info? 5).map (fun i=>(i.zero,i.size,i.bytes))=some (some (.int .u8 0),1,1):=by kernel_rfl
set_option maxHeartbeats 2000000 in
set_option maxRecDepth 100000 in
theorem Tryz.writeString {T:TypeId} (hT:Tryz.BuiltT T) (B b:Nat) (bs:List Value) (s:ByteArray) (w:World) (h:Lib.IsBuilder T 5 B b bs w) (hlen:bs.length+s.size≤140737488355328) (hBw:B≤w.heap.size) (hne5:T≠5) :
    Calls Tryz.prog 43 #[.pointer (some ⟨b,0,none⟩),.string s] w fun e w'=>e=.returned (.tuple #[.int .i64 s.size,.nilIface])∧(Lib.BuilderAt T 5 B b (.pointer (some ⟨b,0,none⟩)) (bs++Lib.strCells s) w'∧Below B w w'∧Tryz.NotRow b w w'):=by
  obtain ⟨i0,hi,hz0,hz1,hz2⟩:=info_parts Tryz.infoByte
  go_enter Tryz.func43,Tryz.ntmps43
  go_wp2_with (go_at_call 91; refine (Tryz.copyCheck hT B b bs _ h).mono ?_)
  rintro e w1 ⟨rfl,h1,hb1,hn1⟩
  obtain ⟨hB,v,hbk,hown,hne⟩:=h1
  have c0:w1.cell? ⟨b,0,none⟩=some (.pointer (some ⟨b,0,none⟩)):=by rw [Lib.cell_of_heap hbk]; rfl
  have c1:w1.cell? ⟨b,1,none⟩=some v:=by rw [Lib.cell_of_heap hbk]; rfl
  go_wp2_with (at_builtin; refine Lib.wpList_append_own_string _ rfl _ _ 76 9 rfl B 5 i0 Tryz.underlying76 Tryz.underlying9 hi hz0 hz1 hz2 _ _ _ rfl hown s rfl ?c3 ?c4 ?c5 ?_)
  case c3=>unfold maxLen; omega
  case c4=>omega
  case c5=>have:=hb1.size; omega
  intro v' w2 hown' hgrow _
  have hlt:b < w1.heap.size:=by
    rcases Nat.lt_or_ge b w1.heap.size with h' | h'
    · exact h'
    · simp [Array.getElem?_eq_none h'] at hbk
  have hb2:w2.heap[b]?=some (.cells #[.pointer (some ⟨b,0,none⟩),v] T (0,0)):=by
    rw [hgrow.block b hlt (fun e=>hne e.symm)]
    exact hbk
  have d0:w2.cell? ⟨b,0,none⟩=some (.pointer (some ⟨b,0,none⟩)):=by rw [Lib.cell_of_heap hb2]; rfl
  have d1:w2.cell? ⟨b,1,none⟩=some v:=by rw [Lib.cell_of_heap hb2]; rfl
  have f1:w2.frozen? ⟨b,1,none⟩=false:=Lib.frozen_of_heap hb2 1
  obtain ⟨ao,n',cap,rfl⟩:∃ ao n' cap,v'=.slice ao n' cap:=by
    rcases hown'.2 with ⟨hv,_⟩ | ⟨g,cap,cur,hv,_⟩
    · exact ⟨_,_,_,hv⟩
    · exact ⟨_,_,_,hv⟩
  go_wp2
  go_ret2
  refine ⟨rfl,?_,?_,?_⟩
  · exact Lib.BuilderAt.put (T:=T) (e:=5) hB hb2 (bs':=bs++Lib.strCells s) (by simpa [Lib.strCells_length] using hown') hne5
  · exact (hb1.grown hgrow (by have:=hb1.size; omega) (fun k hk=>(hown.lt k hk).1)).setCell (p:=⟨b,1,none⟩) hB _
  · refine (hn1.trans ⟨hgrow.size,fun k hk _ hr=>hgrow.block k hk fun e=>?_⟩).trans (Tryz.NotRow.set _ _ _ _)
    rcases hown.2 with ⟨rfl,_⟩ | ⟨g,cap,cur,rfl,_,hg,_⟩
    · cases e
    · cases e; exact hr cur hg
set_option maxHeartbeats 1000000 in
set_option maxRecDepth 100000 in
theorem Tryz.builderString {T:TypeId} (B b:Nat) (l:List UInt8) (w:World) (h:Lib.IsBuilder T 5 B b (Lib.byteCells l) w) (h0:l≠[]) :
    Calls Tryz.prog 45 #[.pointer (some ⟨b,0,none⟩)] w fun e w'=>e=.returned (.string ⟨l.toArray⟩)∧Below B w w':=by
  obtain ⟨p,hB,v,hbk,hown,hne⟩:∃ p,Lib.BuilderAt T 5 B b p (Lib.byteCells l) w:=by
    rcases h with h | h
    · exact ⟨_,h⟩
    · exact ⟨_,h⟩
  have hl0:l.length≠0:=by simpa using h0
  rw [Lib.byteCells_length] at hown
  obtain ⟨g,cap,cur,rfl,hbg,hg,hnc,hcm,hcs,htake⟩:∃ g cap cur,v=.slice (some ⟨g,0,none⟩) l.length cap∧B≤g∧w.heap[g]?=some (.cells cur 5 (0,0))∧l.length≤cap∧cap≤maxLen∧cur.size=cap*1∧cur.toList.take (l.length*1)=Lib.byteCells l:=by
    rcases hown.2 with ⟨_,hz⟩ | ⟨g,cap,cur,hv,r⟩
    · exact absurd hz hl0
    · exact ⟨g,cap,cur,hv,r⟩
  have c1:w.drew.cell? ⟨b,1,none⟩=some (.slice (some ⟨g,0,none⟩) l.length cap):=by
    have:w.drew.heap[b]?=some (.cells #[p,.slice (some ⟨g,0,none⟩) l.length cap] T (0,0)):=hbk
    rw [Lib.cell_of_heap this]; rfl
  have hSD:(Builtin.unsafeSliceData_ #[76] 178 #[.slice (some ⟨g,0,none⟩) l.length cap]).run Tryz.prog w.drew=.ok (.pointer (some ⟨g,0,none⟩)) w.drew :=
    Lib.run_unsafeSliceData_row _ _ _ _ _ _ (by omega)
  have hUS:(Builtin.unsafeString_ #[178,3] 9 #[.pointer (some ⟨g,0,none⟩),.int .i64 l.length]).run Tryz.prog w.drew=.ok (.string ⟨l.toArray⟩) (w.drew.freeze ⟨g,0,none⟩ l.length):=by
    refine Lib.run_unsafeString_row w.drew 178 3 9 5 Tryz.underlying178 (by kernel_rfl) g cur.size (by have hg':w.drew.heap[g]?=some (.cells cur 5 (0,0)):=hg; simp [World.shape?,hg']) l h0 (by omega) (by unfold maxLen at hcm; omega) ?_
    intro j x hx
    have:=hown.cells (g:=g) rfl j (.int .u8 x.toNat) (by simp [Lib.byteCells,hx])
    exact this
  have mixed:Tryz.prog.follows .mixedOrders=true:=by kernel_rfl
  go_enter Tryz.func45,Tryz.ntmps45
  go_wp2
  go_region_o
  all_goals (go_wp2; go_ret; exact ⟨rfl,Lib.below_freeze (Below.drew (Below.refl B w)) (p:=⟨g,0,none⟩) hbg _⟩)
end Go.Proofs

namespace Go.Proofs
open Go.RowKit Go.Shelf
attribute [local go_sem] Oper.semAt_some
def Tryz.hits (zs:List Int) (s:Nat) (level:Int) (k:Nat):List Int :=
  ((List.range k).filter fun j=>decide (s≤j)&&decide (level≤zs[j]?.getD 0)).map fun (j:Nat)=>(j:Int)
theorem Tryz.hits_hit {zs:List Int} {s:Nat} {level:Int} {k:Nat} (h1:s≤k) (h:level≤zs[k]?.getD 0):Tryz.hits zs s level (k+1)=Tryz.hits zs s level k++[(k:Int)]:=by
  simp [Tryz.hits,List.range_succ,List.filter_append,h1,h]
theorem Tryz.hits_miss {zs:List Int} {s:Nat} {level:Int} {k:Nat} (h:¬ level≤zs[k]?.getD 0):Tryz.hits zs s level (k+1)=Tryz.hits zs s level k:=by
  simp [Tryz.hits,List.range_succ,List.filter_append,h]
theorem Tryz.hits_low {zs:List Int} {s:Nat} {level:Int} {k:Nat} (h:k≤s):Tryz.hits zs s level k=[]:=by
  simp [Tryz.hits]
  intro j hj hs
  omega
theorem Tryz.hits_length (zs:List Int) (s:Nat) (level:Int) (k:Nat):(Tryz.hits zs s level k).length≤k:=by
  unfold Tryz.hits
  rw [List.length_map]
  exact Nat.le_trans (List.length_filter_le _ _) (by simp)
structure Tryz.GoodW (B0 B2:Nat) (ad:Option Addr) (b off len cap:Nat) (level:Int) (zs:List Int) (W:World):Prop where
  c0:W.cell? ⟨B0,0,none⟩=some (.slice ad len cap)
  c2:W.cell? ⟨B2,0,none⟩=some (.int .i64 level)
  cs:∀ j,j < len→W.cell? ⟨b,off+j,none⟩=some (.int .i64 (zs[j]?.getD 0))
set_option maxRecDepth 100000 in
set_option maxHeartbeats 2000000 in
theorem Tryz.each1_in (m:Nat) (ad:Option Addr) (l B1 B0 B2 b off len cap s:Nat) (had:ad=some ⟨b,off,none⟩∨len=0) (from_ level:Int) (zs:List Int) (hreach:len≤140737488355328) (hs:max from_ 0=s) (hs2:s≤9223372036854775807) (J Jx:List Int→World→Prop) (W:World)
    (hJ:AbidesFrom W.heap.size J)
    (hY:∀ pre x W,J pre W→pre.length < len→YieldAt Fence.wide (m-1) Tryz.prog l #[.int .i64 x] W fun e W' =>
      (e=.returned (.bool true)∧J (pre++[x]) W'∧(GoodW B0 B2 ad b off len cap level zs W→GoodW B0 B2 ad b off len cap level zs W'))∨(e=.returned (.bool false)∧Jx (pre++[x]) W'))
    (hB1:W.cell? ⟨B1,0,none⟩=some (.int .i64 from_)) (hG:GoodW B0 B2 ad b off len cap level zs W) (h0:J [] W) :
    CallsIn Fence.wide m Tryz.prog 220 #[.func (.yield l) #[] #[],.pointer (some ⟨B1,0,none⟩),.pointer (some ⟨B0,0,none⟩),.pointer (some ⟨B2,0,none⟩)] W fun e W'=>(∃ v,e=.returned v) ∧
      ((∃ ys,ys=Tryz.hits zs s level len∧J ys W')∨(∃ pre,Jx pre W')):=by
  refine callsIn_of_wp Tryz.func220 rfl trivial ?_ rfl
  simp only [Tryz.ntmps220,List.size_toArray,List.length_cons,List.length_nil,Nat.reduceAdd,Nat.reduceSub,Array.replicate_succ,Array.replicate_zero,List.push_toArray,List.append_toArray,List.nil_append,List.cons_append]
  have hB0:=hG.c0
  by_cases hf:from_ < 0
  · have hs0:s=0:=by omega
    gi_wp2
    gi_loopw [5] (fun i wr=>∃ k:Nat,s≤k∧k≤max len s∧i=.int .i64 k∧J (Tryz.hits zs s level (min k len)) wr∧GoodW B0 B2 ad b off len cap level zs wr)
      (fun i _=>len-(intOf i).toNat)
    case atStart =>
      refine ⟨s,by omega,by omega,by rw [hs0]; rfl,?_,hG⟩
      rw [Tryz.hits_low (show min s len≤s by omega)]
      exact h0
    case round =>
      obtain ⟨k,hk1,hk2,rfl,hJ2,hG2⟩:=hrel
      have d0:=hG2.c0
      have d2:=hG2.c2
      by_cases hk:k < len
      · obtain rfl:ad=some ⟨b,off,none⟩:=had.resolve_right (by omega)
        have dk:=hG2.cs k hk
        gi_wp2
        have hmx:Tryz.prog.follows .mixedOrders=true:=by kernel_rfl
        have hhit:=fun h=>Tryz.hits_hit (zs:=zs) (s:=s) (level:=level) (k:=k) hk1 h
        have hmiss:=fun h=>Tryz.hits_miss (zs:=zs) (s:=s) (level:=level) (k:=k) h
        generalize zs[k]?.getD 0=z at dk hhit hmiss
        by_cases hlv:level≤z
        · have hlen:(Tryz.hits zs s level (min k len)).length < len:=by
            have:=Tryz.hits_length zs s level (min k len)
            omega
          have hJd:J (Tryz.hits zs s level (min k len)) wr.drew:=hJ _ _ _ none hJ2 ⟨rfl,rfl,rfl,Nat.le_refl _,fun _ _ _=>rfl⟩ (by simp)
          have hGd:GoodW B0 B2 (some ⟨b,off,none⟩) b off len cap level zs wr.drew:=⟨hG2.c0,hG2.c2,hG2.cs⟩
          obtain ⟨fn,tmps,assign,body,hy,hR⟩:=hY _ (k:Int) wr.drew hJd hlen
          gi_region_with_o (go_simp; refine ⟨fun h=>(by cases h),hR.mono ?_⟩; rintro e W3 hor0; obtain ⟨rb,rfl,hor⟩:∃ rb,e=.returned (.bool rb)∧((rb=true∧J (Tryz.hits zs s level (min k len)++[(k:Int)]) W3∧(GoodW B0 B2 (some ⟨b,off,none⟩) b off len cap level zs wr.drew→GoodW B0 B2 (some ⟨b,off,none⟩) b off len cap level zs W3))∨(rb=false∧Jx (Tryz.hits zs s level (min k len)++[(k:Int)]) W3)):=(by rcases hor0 with ⟨h,a⟩ | ⟨h,a⟩; exact ⟨true,h,.inl ⟨rfl,a⟩⟩; exact ⟨false,h,.inr ⟨rfl,a⟩⟩); clear hor0)
          all_goals (rcases hor with ⟨rfl,hJ3,hG3⟩ | ⟨rfl,hJx3⟩)
          all_goals gi_wp2
          all_goals first
            | exact ⟨⟨k+1,by omega,by omega,by simp,by
                rw [show min (k+1) len=k+1 by omega,hhit hlv]
                rw [show min k len=k by omega] at hJ3
                exact hJ3,hG3 hGd⟩,by simp only [intOf]; omega⟩
            | (refine bodyPost_ret (results_none rfl _ _ _) rfl ?_; exact ⟨⟨_,rfl⟩,.inr ⟨_,hJx3⟩⟩)
        · have hlt:z < level:=by omega
          have hdec:decide (level≤z)=false:=decide_eq_false hlv
          first | gi_region_with_o (go_simp; refine ⟨fun _ h=>(by cases h),?_⟩) | fail
          all_goals gi_wp2
          all_goals exact ⟨⟨k+1,by omega,by omega,by simp,by
                rw [show min (k+1) len=k+1 by omega,hmiss hlv]
                rw [show min k len=k by omega] at hJ2
                exact hJ _ _ _ none hJ2 ⟨rfl,rfl,rfl,Nat.le_refl _,fun _ _ _=>rfl⟩ (by simp),⟨hG2.c0,hG2.c2,hG2.cs⟩⟩,by simp only [intOf]; omega⟩
      · gi_wp2
        go_end0
        refine ⟨⟨_,rfl⟩,.inl ⟨_,rfl,?_⟩⟩
        by_cases hl:len≤s
        · rw [Tryz.hits_low hl]
          rw [Tryz.hits_low (show min k len≤s by omega)] at hJ2
          exact hJ2
        · rw [show min k len=len by omega] at hJ2
          exact hJ2
  · obtain rfl:from_=(s:Int):=by omega
    gi_wp2
    gi_loopw [5] (fun i wr=>∃ k:Nat,s≤k∧k≤max len s∧i=.int .i64 k∧J (Tryz.hits zs s level (min k len)) wr∧GoodW B0 B2 ad b off len cap level zs wr)
      (fun i _=>len-(intOf i).toNat)
    case atStart =>
      refine ⟨s,by omega,by omega,rfl,?_,hG⟩
      rw [Tryz.hits_low (show min s len≤s by omega)]
      exact h0
    case round =>
      obtain ⟨k,hk1,hk2,rfl,hJ2,hG2⟩:=hrel
      have d0:=hG2.c0
      have d2:=hG2.c2
      by_cases hk:k < len
      · obtain rfl:ad=some ⟨b,off,none⟩:=had.resolve_right (by omega)
        have dk:=hG2.cs k hk
        gi_wp2
        have hmx:Tryz.prog.follows .mixedOrders=true:=by kernel_rfl
        have hhit:=fun h=>Tryz.hits_hit (zs:=zs) (s:=s) (level:=level) (k:=k) hk1 h
        have hmiss:=fun h=>Tryz.hits_miss (zs:=zs) (s:=s) (level:=level) (k:=k) h
        generalize zs[k]?.getD 0=z at dk hhit hmiss
        by_cases hlv:level≤z
        · have hlen:(Tryz.hits zs s level (min k len)).length < len:=by
            have:=Tryz.hits_length zs s level (min k len)
            omega
          have hJd:J (Tryz.hits zs s level (min k len)) wr.drew:=hJ _ _ _ none hJ2 ⟨rfl,rfl,rfl,Nat.le_refl _,fun _ _ _=>rfl⟩ (by simp)
          have hGd:GoodW B0 B2 (some ⟨b,off,none⟩) b off len cap level zs wr.drew:=⟨hG2.c0,hG2.c2,hG2.cs⟩
          obtain ⟨fn,tmps,assign,body,hy,hR⟩:=hY _ (k:Int) wr.drew hJd hlen
          gi_region_with_o (go_simp; refine ⟨fun h=>(by cases h),hR.mono ?_⟩; rintro e W3 hor0; obtain ⟨rb,rfl,hor⟩:∃ rb,e=.returned (.bool rb)∧((rb=true∧J (Tryz.hits zs s level (min k len)++[(k:Int)]) W3∧(GoodW B0 B2 (some ⟨b,off,none⟩) b off len cap level zs wr.drew→GoodW B0 B2 (some ⟨b,off,none⟩) b off len cap level zs W3))∨(rb=false∧Jx (Tryz.hits zs s level (min k len)++[(k:Int)]) W3)):=(by rcases hor0 with ⟨h,a⟩ | ⟨h,a⟩; exact ⟨true,h,.inl ⟨rfl,a⟩⟩; exact ⟨false,h,.inr ⟨rfl,a⟩⟩); clear hor0)
          all_goals (rcases hor with ⟨rfl,hJ3,hG3⟩ | ⟨rfl,hJx3⟩)
          all_goals gi_wp2
          all_goals first
            | exact ⟨⟨k+1,by omega,by omega,by simp,by
                rw [show min (k+1) len=k+1 by omega,hhit hlv]
                rw [show min k len=k by omega] at hJ3
                exact hJ3,hG3 hGd⟩,by simp only [intOf]; omega⟩
            | (refine bodyPost_ret (results_none rfl _ _ _) rfl ?_; exact ⟨⟨_,rfl⟩,.inr ⟨_,hJx3⟩⟩)
        · have hlt:z < level:=by omega
          have hdec:decide (level≤z)=false:=decide_eq_false hlv
          first | gi_region_with_o (go_simp; refine ⟨fun _ h=>(by cases h),?_⟩) | fail
          all_goals gi_wp2
          all_goals exact ⟨⟨k+1,by omega,by omega,by simp,by
                rw [show min (k+1) len=k+1 by omega,hmiss hlv]
                rw [show min k len=k by omega] at hJ2
                exact hJ _ _ _ none hJ2 ⟨rfl,rfl,rfl,Nat.le_refl _,fun _ _ _=>rfl⟩ (by simp),⟨hG2.c0,hG2.c2,hG2.cs⟩⟩,by simp only [intOf]; omega⟩
      · gi_wp2
        go_end0
        refine ⟨⟨_,rfl⟩,.inl ⟨_,rfl,?_⟩⟩
        by_cases hl:len≤s
        · rw [Tryz.hits_low hl]
          rw [Tryz.hits_low (show min k len≤s by omega)] at hJ2
          exact hJ2
        · rw [show min k len=len by omega] at hJ2
          exact hJ2
theorem Tryz.each1_stops (m:Nat) (ad:Option Addr) (B1 B0 B2 b off len cap s:Nat) (had:ad=some ⟨b,off,none⟩∨len=0) (from_ level:Int) (zs:List Int) (hreach:len≤140737488355328) (hs:max from_ 0=s) (hs2:s≤9223372036854775807) (w:World)
    (hb:B1 < w.heap.size∧B0 < w.heap.size∧B2 < w.heap.size∧(0 < len→b < w.heap.size))
    (hB1:w.cell? ⟨B1,0,none⟩=some (.int .i64 from_)) (hG:GoodW B0 B2 ad b off len cap level zs w) :
    SeqStopsK Fence.wide m Tryz.prog 220 #[.pointer (some ⟨B1,0,none⟩),.pointer (some ⟨B0,0,none⟩),.pointer (some ⟨B2,0,none⟩)] (fun x:Int=>#[Value.int .i64 x]) (fun W W'=>GoodW B0 B2 ad b off len cap level zs W→GoodW B0 B2 ad b off len cap level zs W') (fun ys=>ys=Tryz.hits zs s level len) (fun _=>True) len w:=by
  intro l J Jx W hW hJ hJx hY h0
  have c1:=(hW.cell (p:=⟨B1,0,none⟩) hb.1).trans hB1
  have g:GoodW B0 B2 ad b off len cap level zs W:=⟨(hW.cell (p:=⟨B0,0,none⟩) hb.2.1).trans hG.c0,(hW.cell (p:=⟨B2,0,none⟩) hb.2.2.1).trans hG.c2,fun j hj=>(hW.cell (p:=⟨b,off+j,none⟩) (hb.2.2.2 (by omega))).trans (hG.cs j hj)⟩
  refine (Tryz.each1_in m ad l B1 B0 B2 b off len cap s had from_ level zs hreach hs hs2 J Jx W hJ hY c1 g h0).mono ?_
  rintro e W' ⟨hv,⟨ys,hys,hj⟩ | ⟨pre,hp⟩⟩
  · exact ⟨hv,.inl ⟨ys,hys,hj⟩⟩
  · exact ⟨hv,.inr ⟨pre,trivial,hp⟩⟩
set_option maxRecDepth 100000 in
set_option maxHeartbeats 2000000 in
theorem Tryz.each_in (m:Nat) (ad:Option Addr) (ln cp:Nat) (from_ level:Int) (w:World) :
    CallsIn Fence.wide m Tryz.prog 177 #[.slice ad ln cp,.int .i64 from_,.int .i64 level] w fun e W'=>e=.returned (.func (.func 220) #[] #[.pointer (some ⟨w.heap.size+1,0,none⟩),.pointer (some ⟨w.heap.size,0,none⟩),.pointer (some ⟨w.heap.size+1+1,0,none⟩)]) ∧
      W'=((w.alloc (.cells #[.slice ad ln cp] 80)).alloc (.cells #[.int .i64 from_] 3)).alloc (.cells #[.int .i64 level] 3):=by
  refine callsIn_of_wp Tryz.func177 rfl trivial ?_ rfl
  simp only [Tryz.ntmps177,List.size_toArray,List.length_cons,List.length_nil,Nat.reduceAdd,Nat.reduceSub,Array.replicate_succ,Array.replicate_zero,List.push_toArray,List.append_toArray,List.nil_append,List.cons_append]
  gi_wp2
  refine bodyPost_ret (results_tmp rfl _ _ _) rfl ?_
  exact ⟨rfl,rfl⟩
end Go.Proofs

namespace Go.Proofs
open Go.RowKit Go.Shelf
attribute [local go_sem] Oper.semAt_some
theorem Tryz.boxed_own (B:Nat) (t:TypeId) (v:List Int→Value):Own (fun (s:List Int) W=>Boxed W B t (v s)):=by
  intro s W W' row hs hg hr
  refine hs.kept hg fun e=>?_
  obtain ⟨o,h1,h2⟩:=hr B e.symm
  rw [show W.heap[B]?=_ from hs] at h1
  cases h1
  cases h2
set_option maxRecDepth 100000 in
set_option maxHeartbeats 2000000 in
theorem Tryz.count_in (m:Nat) (hm:1≤m) (ad:Option Addr) (b off ln cp:Nat) (had:ad=some ⟨b,off,none⟩∨ln=0) (level:Int) (zs:List Int) (hreach:ln≤1000000000) (w:World) (hb:0 < ln→b < w.heap.size)
    (hc:∀ j,j < ln→w.cell? ⟨b,off+j,none⟩=some (.int .i64 (zs[j]?.getD 0))) :
    CallsIn Fence.wide m Tryz.prog 312 #[.slice ad ln cp,.int .i64 level] w fun e W'=>e=.returned (.int .i64 ((Tryz.hits zs 0 level ln).length:Int))∧Below w.heap.size w W':=by
  refine callsIn_of_wp_marks Tryz.func312 rfl trivial ?_ rfl
  simp only [Tryz.ntmps312,List.size_toArray,List.length_cons,List.length_nil,Nat.reduceAdd,Nat.reduceSub,Array.replicate_succ,Array.replicate_zero,List.push_toArray,List.append_toArray,List.nil_append,List.cons_append]
  gi_wp2_with (refine ⟨trivial,(Tryz.each_in (m-1) _ _ _ _ _ _).mono ?_⟩; rintro e w1 ⟨rfl,rfl⟩)
  generalize hw3:((((w.alloc (.cells #[.int .i64 0] 3)).alloc (.cells #[.slice ad ln cp] 80)).alloc (.cells #[.int .i64 0] 3)).alloc (.cells #[.int .i64 level] 3))=w3
  have bO:Boxed w3 w.heap.size 3 (.int .i64 0):=by rw [← hw3]; exact ((((Boxed.new w 3 (.int .i64 0)).alloc _).alloc _).alloc _)
  have b0:Boxed w3 (w.heap.size+1) 80 (.slice ad ln cp):=by
    rw [← hw3]
    have:=Boxed.new (w.alloc (.cells #[.int .i64 0] 3)) 80 (.slice ad ln cp)
    simp only [World.size_alloc] at this
    exact (this.alloc _).alloc _
  have b1:Boxed w3 (w.heap.size+1+1) 3 (.int .i64 0):=by
    rw [← hw3]
    have:=Boxed.new ((w.alloc (.cells #[.int .i64 0] 3)).alloc (.cells #[.slice ad ln cp] 80)) 3 (.int .i64 0)
    simp only [World.size_alloc] at this
    exact this.alloc _
  have b2:Boxed w3 (w.heap.size+1+1+1) 3 (.int .i64 level):=by
    rw [← hw3]
    have:=Boxed.new (((w.alloc (.cells #[.int .i64 0] 3)).alloc (.cells #[.slice ad ln cp] 80)).alloc (.cells #[.int .i64 0] 3)) 3 (.int .i64 level)
    simp only [World.size_alloc] at this
    exact this
  have hsz:w3.heap.size=w.heap.size+4:=by rw [← hw3]; simp
  have hB0:Below w.heap.size w w3:=by
    rw [← hw3]
    exact (((((Below.refl _ w).alloc (Nat.le_refl _) _).alloc (by simp) _).alloc (by simp; omega) _).alloc (by simp; omega) _)
  have hG:GoodW (w.heap.size+1) (w.heap.size+1+1+1) ad b off ln cp level zs w3:=⟨b0.cell,b2.cell,fun j hj=>(hB0.cell (p:=⟨b,off+j,none⟩) (hb (by omega))).trans (hc j hj)⟩
  clear hw3
  refine wpIn_rangeFunc_ownG (n:=m) rfl hm (gf:=220) (lb:=#[.pointer (some ⟨w.heap.size+1+1,0,none⟩),.pointer (some ⟨w.heap.size+1,0,none⟩),.pointer (some ⟨w.heap.size+1+1+1,0,none⟩)]) rfl trivial (enters_of Tryz.func220 (by kernel_rfl) rfl)
    (Tryz.each1_stops (m-1) ad (w.heap.size+1+1) (w.heap.size+1) (w.heap.size+1+1+1) b off ln cp 0 had 0 level zs (by omega) (by omega) (by omega) w3 ⟨by omega,by omega,by omega,fun h=>by have:=hb h; omega⟩ b1.cell hG)
    (fun h1 h2 g=>h2 (h1 g)) ?hKb (Below.refl _ _) (fun _=>rfl)
    (fun pre W=>Boxed W w.heap.size 3 (.int .i64 (pre.length:Int))∧Below w.heap.size w3 W)
    (fun _ _ _=>False)
    (OwnFrom.and (Own.from (Tryz.boxed_own w.heap.size 3 fun pre=>.int .i64 (pre.length:Int)) _) (ownFrom_below (by omega) (by omega)))
    (fun _ _ _ _ _ hs _ _=>hs)
    ⟨bO,Below.refl _ _⟩
    (fun x=>{ tmps:=#[.slice ad ln cp,.int .i64 level,undef,undef,.int .i64 0,.pointer (some ⟨w.heap.size,0,none⟩),.slice ad ln cp,.int .i64 level,.func (.func 220) #[] #[.pointer (some ⟨w.heap.size+1+1,0,none⟩),.pointer (some ⟨w.heap.size+1,0,none⟩),.pointer (some ⟨w.heap.size+1+1+1,0,none⟩)],.int .i64 x,undef,undef,undef],defers:=[] }) ?assign ?body ?done ?stop
  case hKb =>
    intro W l o o' hl ho hc1 hw1 g
    have hbl:=belowK_b (w:=w3) (Nat.le_refl _) W l o o' hl ho hc1 hw1
    exact ⟨(hbl.cell (p:=⟨w.heap.size+1,0,none⟩) (by show w.heap.size+1 < w3.heap.size; omega)).trans g.c0,(hbl.cell (p:=⟨w.heap.size+1+1+1,0,none⟩) (by show w.heap.size+1+1+1 < w3.heap.size; omega)).trans g.c2,fun j hj=>(hbl.cell (p:=⟨b,off+j,none⟩) (by show b < w3.heap.size; have:=hb (by omega); omega)).trans (g.cs j hj)⟩
  case assign =>
    intro l x W K hK
    gi_wp2
    simpa using hK
  case body =>
    rintro l pre x W ⟨hv,hB⟩ hlt
    have hc:=hv.cell
    have hf:=hv.frozen
    gi_wp2
    have hsz1:=hB.size
    have hkeep:∀ (B f:Nat),B≠w.heap.size→B < w3.heap.size→(W.setCell ⟨w.heap.size,0,none⟩ (.int .i64 ((pre.length:Int)+1))).cell? ⟨B,f,none⟩=W.cell? ⟨B,f,none⟩:=by
      intro B f hne hlt
      have e:=(grownBy_setCell' W w.heap.size (.int .i64 ((pre.length:Int)+1))).block B (by omega) (by simpa using hne)
      unfold World.cell?
      rw [e]
    refine ⟨(KeepsOthers.setCell _ _ _).from _,fun g=>⟨(hkeep _ _ (by omega) (by omega)).trans g.c0,(hkeep _ _ (by omega) (by omega)).trans g.c2,fun j hj=>(hkeep _ _ (by have:=hb (by omega); omega) (by have:=hb (by omega); omega)).trans (g.cs j hj)⟩,?_,?_⟩
    · have h1:=hv.set (.int .i64 ((pre.length:Int)+1))
      have e:(((pre++[x]).length:Nat):Int)=(pre.length:Int)+1:=by simp
      rw [e]
      exact h1
    · exact hB.trans ((Below.refl _ _).setCell (p:=⟨w.heap.size,0,none⟩) (Nat.le_refl _) _)
  case done =>
    rintro D ys W hD rfl ⟨hv,hB⟩ hK
    have hc:=hv.cell
    gi_wp2
    refine ⟨by simp,.inl ⟨_,_,rfl,run_takeDeferred hK,?_⟩⟩
    exact ⟨_,results_tmp rfl _ _ _,rfl,(hB0.trans hB).trans (belowK_b (w:=w) (Nat.le_refl _) W D _ _ (by omega) hK rfl rfl)⟩
  case stop =>
    rintro D c pre W _ _ h _
    exact h.elim
end Go.Proofs

namespace Go.Proofs.YtlkkebfjmbfgpaaGreatDoor.Ev
open Go Go.RowKit Go.Shelf
attribute [local go_sem] Oper.semAt_some
theorem left_l0' (run:Run) (m:Nat) (n:Int) (hn:n≤1152921504606846976):∀ (j k:Nat) (p:Int),n≤p*2^j→1≤p→p < n→j < k→f165_l0 run m k n p=some ⟨[.int (lv j n p)],[],false⟩:=by
  intro j
  induction j with
  | zero =>
    intro k p h1 h2 h3 hk
    rw [Int.pow_zero] at h1
    omega
  | succ j ih =>
    intro k p h1 h2 h3 hk
    obtain ⟨k,rfl⟩:∃ j,k=j+1:=⟨k-1,by omega⟩
    have e:Int.tdiv (n-1) 2=(n-1) / 2:=Int.tdiv_eq_ediv_of_nonneg (by omega)
    rw [f165_l0_eq,w64 (x:=n-1) (by omega) (by omega),e,w64 (x:=(n-1) / 2) (by omega) (by omega),w64 (x:=p*2) (by omega) (by omega)]
    simp only [lv]
    by_cases h:2*p < n
    · rw [leI_t (by omega),if_pos h,cond_true,show p*2=2*p by omega]
      exact ih k (2*p) (by rw [Int.pow_succ] at h1; rw [Int.mul_comm 2 p,Int.mul_assoc,Int.mul_comm 2]; exact h1) (by omega) h (by omega)
    · rw [leI_f (by omega),if_neg h]; rfl
theorem lv_ge:∀ (j:Nat) (n p:Int),1≤p→p < n→1≤lv j n p∧lv j n p < n
  | 0,_,_,h1,h2=>⟨h1,h2⟩
  | j+1,n,p,h1,h2=>by
    simp only [lv]
    split
    · exact lv_ge j n (2*p) (by omega) (by omega)
    · exact ⟨h1,h2⟩
theorem leftV_in {n:Int} (h:2≤n):1≤leftV n∧leftV n < n:=by
  unfold leftV
  rw [if_neg (by omega)]
  exact lv_ge 64 n 1 (by omega) (by omega)
theorem left_plain {n:Int} (h:2≤n) (h2:n≤1048576):Runs G noExt 165 [.int n] ⟨[.int (leftV n)],[],false⟩:=by
  refine Runs.of_eval 101 ?_
  rw [f165_run,f165_eq,ltI_f (by omega)]
  unfold leftV
  rw [if_neg (by omega)]
  exact left_l0' _ _ n (by omega) 64 100 1 (by rw [Int.one_mul,show (2:Int)^64=18446744073709551616 from rfl]; omega) (by omega) (by omega) (by omega)
theorem left_calls {n:Int} (h:2≤n) (h2:n≤1048576) (w:World):Calls Tryz.prog 165 #[.int .i64 n] w fun e w'=>e=.returned (.int .i64 (leftV n))∧w.grownBy w' none:=by
  have hs:=sat_of_runs types_ok fns_ok (f:=165) (i:=f165_info) (by kernel_rfl) (left_plain h h2)
  refine (hs (fun _=>none) w [.int .i64 n] [] (fun p v e=>by cases e) ?_ (by simp)).mono ?_
  · exact ⟨.int .i64 n,[],.int n,[],rfl,rfl,⟨[.int .i64 n],rfl,n,rfl,rfl,by have:=wrap_wf .i64 n; rwa [w64 (by omega) (by omega)] at this⟩,rfl,rfl,rfl⟩
  · rintro e w' ⟨S,v,rfl,_,_,_,hk,⟨x,hx,⟨cs,hv,m,hm,rfl,_⟩,_⟩,_⟩
    cases hx
    cases hm
    refine ⟨?_,?_⟩
    · rw [hv]; rfl
    · exact ⟨hk.os,hk.tape,hk.output,hk.size,fun k hk1 _=>hk.block k hk1 (by simp)⟩
def downV:Nat→Int→Int→List Bool
  | 0,_,_=>[]
  | k+1,n,i=>if n < 2 then [] else if i < leftV n then false::downV k (leftV n) i else true::downV k (n-leftV n) (i-leftV n)
theorem sides_down:∀ k n i,sidesV k n i=((downV k n i).reverse).map AV.bool
  | 0,_,_=>rfl
  | k+1,n,i=>by
    simp only [sidesV,downV]
    split
    · rfl
    · split
      · rw [sides_down k]; simp
      · rw [sides_down k]; simp
theorem downV_len:∀ k n i,(downV k n i).length≤k
  | 0,_,_=>by simp [downV]
  | k+1,n,i=>by
    simp only [downV]
    split
    · simp
    · split
      · have:=downV_len k (leftV n) i; simp; omega
      · have:=downV_len k (n-leftV n) (i-leftV n); simp; omega
set_option maxRecDepth 100000 in
set_option maxHeartbeats 2000000 in
theorem down_in (m:Nat) (l:Nat) (J Jx:List Bool→World→Prop) (N:Nat) (nn ii:Int) (h1:0≤ii) (h2:ii < nn) (h3:nn≤1048576) (W:World) (hN:N=(downV nn.toNat nn ii).length)
    (hJ:AbidesFrom W.heap.size J)
    (hY:∀ pre x W,J pre W→pre.length < N→YieldAt Fence.wide (m-1) Tryz.prog l #[.bool x] W fun e W' =>
      (e=.returned (.bool true)∧J (pre++[x]) W')∨(e=.returned (.bool false)∧Jx (pre++[x]) W'))
    (h0:J [] W) :
    CallsIn Fence.wide m Tryz.prog 108 #[.int .i64 nn,.int .i64 ii,.func (.yield l) #[] #[]] W fun e W'=>(∃ v,e=.returned v) ∧
      ((∃ ys,ys=downV nn.toNat nn ii∧J ys W')∨(∃ pre,pre <+: downV nn.toNat nn ii∧Jx pre W')):=by
  refine callsIn_of_wp Tryz.func108 rfl trivial ?_ rfl
  simp only [Tryz.ntmps108,List.size_toArray,List.length_cons,List.length_nil,Nat.reduceAdd,Nat.reduceSub,Array.replicate_succ,Array.replicate_zero,List.push_toArray,List.append_toArray,List.nil_append,List.cons_append]
  gi_wp2
  gi_loopw [0,1] (fun vn vi wr=>∃ (k:Nat) (n' i':Int) (pre:List Bool),vn=.int .i64 n'∧vi=.int .i64 i'∧0≤i'∧i' < n'∧n'≤nn∧n'≤k∧pre++downV k n' i'=downV nn.toNat nn ii∧J pre wr)
    (fun vn _ _=>(intOf vn).toNat)
  case atStart=>exact ⟨nn.toNat,nn,ii,[],rfl,rfl,h1,h2,Int.le_refl _,by omega,rfl,h0⟩
  case round =>
    obtain ⟨k,n',i',pre,rfl,rfl,g1,g2,g3,g4,g5,gJ⟩:=hrel
    obtain ⟨k,rfl⟩:∃ j,k=j+1:=⟨k-1,by omega⟩
    by_cases hn:n' < 2
    · have g6:pre=downV nn.toNat nn ii:=by rw [← g5]; simp [downV,hn]
      clear g5
      have hn':¬ 1 < n':=by omega
      gi_wp2
      go_end0
      refine ⟨⟨_,rfl⟩,.inl ?_⟩
      rw [← g6]; exact gJ
    · have hp:=leftV_in (n:=n') (by omega)
      have hlen:pre.length < N:=by
        rw [hN,← g5]; simp only [downV,if_neg hn]; split <;> simp
      gi_wp2_with (refine ⟨trivial,fun h=>(by cases h),?_⟩; refine (callsIn_wide.2 (left_calls (n:=n') (by omega) (by omega) _)).mono ?_; rintro e w1 ⟨rfl,hg⟩; have hJ1:=hJ _ _ _ none gJ hg (by simp); obtain ⟨fn,tmps,assign,body,hy,hR⟩:=hY pre (decide (leftV n'≤i')) w1 hJ1 hlen)
      refine ⟨fun h=>(by cases h),hR.mono ?_⟩
      rintro e W3 (⟨rfl,hJ3⟩ | ⟨rfl,hJx3⟩)
      · have b1:-9223372036854775808≤n'-leftV n'∧n'-leftV n'≤9223372036854775807:=by omega
        have b2:leftV n'≤i'→-9223372036854775808≤i'-leftV n'∧i'-leftV n'≤9223372036854775807:=by omega
        by_cases hq:leftV n'≤i'
        · have g6:(pre++[decide (leftV n'≤i')])++downV k (n'-leftV n') (i'-leftV n')=downV nn.toNat nn ii:=by
            rw [← g5,decide_eq_true hq]; simp only [downV,if_neg (show ¬ n' < 2 by omega),if_neg (show ¬ i' < leftV n' by omega)]; simp
          gi_wp2
          exact ⟨⟨k,n'-leftV n',i'-leftV n',_,rfl,rfl,by omega,by omega,by omega,by omega,g6,hJ3⟩,by simp only [intOf]; omega⟩
        · have g6:(pre++[decide (leftV n'≤i')])++downV k (leftV n') i'=downV nn.toNat nn ii:=by
            rw [← g5,decide_eq_false hq]; simp only [downV,if_neg (show ¬ n' < 2 by omega),if_pos (show i' < leftV n' by omega)]; simp
          gi_wp2
          exact ⟨⟨k,leftV n',i',_,rfl,rfl,by omega,by omega,by omega,by omega,g6,hJ3⟩,by simp only [intOf]; omega⟩
      · gi_wp2
        refine bodyPost_ret (results_none rfl _ _ _) rfl ?_
        exact ⟨⟨_,rfl⟩,.inr ⟨pre++[decide (leftV n'≤i')],by
          rw [← g5]; simp only [downV,if_neg (show ¬ n' < 2 by omega)]
          split
          · rw [decide_eq_false (by omega)]; exact ⟨_,by rw [List.append_assoc]; rfl⟩
          · rw [decide_eq_true (by omega)]; exact ⟨_,by rw [List.append_assoc]; rfl⟩,hJx3⟩⟩
theorem room_wide (k:Nat):Fence.wide.room k:=fun d h=>by cases h
theorem YieldAt.wide {m:Nat} (m':Nat) {P:Program} {l:Nat} {args:Array Value} {W:World} {R:Ending→World→Prop} (h:YieldAt Fence.wide m P l args W R):YieldAt Fence.wide m' P l args W R:=by
  obtain ⟨fn,tmps,assign,body,hy,hR⟩:=h
  exact ⟨fn,tmps,assign,body,hy,hR.1,fun c cs _=>hR.2 c cs (room_wide _)⟩
set_option maxRecDepth 100000 in
set_option maxHeartbeats 2000000 in
theorem sides1_stops (m Bn Bi n₀:Nat) (nn ii:Int) (h1:0≤ii) (h2:ii < nn) (h3:nn≤1048576) (w:World) (hBn:Bn < w.heap.size) (hBi:Bi < w.heap.size)
    (hcn:w.cell? ⟨Bn,0,none⟩=some (.int .i64 nn)) (hci:w.cell? ⟨Bi,0,none⟩=some (.int .i64 ii)) :
    SeqStopsK Fence.wide m Tryz.prog 107 #[.pointer (some ⟨Bn,0,none⟩),.pointer (some ⟨Bi,0,none⟩)] (fun x:Bool=>#[Value.bool x]) (Below n₀) (fun ys=>ys=downV nn.toNat nn ii) (fun pre=>pre <+: downV nn.toNat nn ii) (downV nn.toNat nn ii).length w:=by
  intro l J Jx W hW hJ hJx hY h0
  have cn:=(hW.cell (p:=⟨Bn,0,none⟩) hBn).trans hcn
  have ci:=(hW.cell (p:=⟨Bi,0,none⟩) hBi).trans hci
  have hd:=fun k=>down_in k l J Jx _ nn ii h1 h2 h3 W rfl hJ (fun pre x W1 hJ1 hlen=>by
    obtain ⟨fn,tmps,assign,body,hy,hR⟩:=YieldAt.wide (k-1) (hY pre x W1 hJ1 hlen)
    refine ⟨fn,tmps,assign,body,hy,hR.mono ?_⟩
    rintro e W' (⟨a,b,_⟩ | h)
    · exact .inl ⟨a,b⟩
    · exact .inr h) h0
  refine callsIn_of_wp Tryz.func107 rfl trivial ?_ rfl
  simp only [Tryz.ntmps107,List.size_toArray,List.length_cons,List.length_nil,Nat.reduceAdd,Nat.reduceSub,Array.replicate_succ,Array.replicate_zero,List.push_toArray,List.append_toArray,List.nil_append,List.cons_append]
  clear hY
  gi_wp2_with (refine ⟨trivial,fun h=>(by cases h),?_⟩; refine (hd _).mono ?_; rintro e w1 ⟨⟨v,rfl⟩,hor⟩)
  go_end0
  exact ⟨⟨_,rfl⟩,hor⟩
theorem wpListIn_append_zero {F:Fence} {n:Nat} {P:Program} (w:World) {ops:Array Oper} {rest:List Oper} {o:Oper} {a:Act} {Q:Exit→Act→World→Prop}
    (hg:o.guard=none) (s x:Operand) (t:TypeId) (hop:o.op=Op.call { callee:=Callee.builtin Builtin.append,args:=#[s,x],argTypes:=#[t,t] })
    (e:TypeId) (i:TypeInfo) (h1:P.underlying t=some (.slice e)) (h2:P.info? e=some i)
    (base ao:Option Addr) (k cap c:Nat) (hk:k≤cap) (hs:a.eval s=.slice base k cap) (hx:a.eval x=.slice ao 0 c)
    (hK:wpListIn F n P ops Q rest (a.put o.dst (.slice base k cap)) w) :
    wpListIn F n P ops Q (o::rest) a w:=by
  refine wpListIn_plain hg fun K hK'=>?_
  have hrun:=run_append_zero (P:=P) (w:=w) t o.type e i h1 h2 base ao k cap c hk
  unfold Oper.wpIn
  refine ⟨?_,?_⟩
  · simp [Oper.about,hop,resolve,Target.leads,Sem.run_pure]
  · rw [Oper.semAt_plain F _ _ (by rw [hop]; intro c hc'; cases hc')]
    simp [execOp,hop,resolve,invoke,builtin,hs,hx,hrun,Result.andThen]
    exact hK' _ _ hK
theorem own_cell {w:World} {base e k cap g:Nat} {xs:List Value} (h:w.ownsRow base e 1 (.slice (some ⟨g,0,none⟩) k cap) k xs):∀ j u,xs[j]?=some u→w.cell? ((⟨g,0,none⟩:Addr).add j)=some u:=by
  rcases h.2 with ⟨e,_⟩ | ⟨g2,cap2,cur,e,_,hb,h1,h2,h3,h4⟩
  · cases e
  · cases e
    intro j u hj
    rw [← h4,List.getElem?_take] at hj
    split at hj
    · have e:(⟨g,0,none⟩:Addr).add j=⟨g,j,none⟩:=by unfold Addr.add; split <;> simp_all
      rw [e]
      simp [World.cell?,hb]
      simpa using hj
    · cases hj
theorem info_bool:(Tryz.prog.info? 4).map (fun i=>(i.zero,i.size,i.bytes))=some (some (.bool false),1,1):=by kernel_rfl
def turns (nn ii:Int):List Bool:=if 0≤ii∧ii < nn then (downV nn.toNat nn ii).reverse else []
set_option maxRecDepth 100000 in
set_option maxHeartbeats 2000000 in
theorem sides_in (m:Nat) (hm:1≤m) (nn ii:Int) (h3:nn≤1048576) (w:World) :
    CallsIn Fence.wide m Tryz.prog 55 #[.int .i64 nn,.int .i64 ii] w fun e W'=>∃ v,e=.returned v∧W'.ownsRow w.heap.size 4 1 v (turns nn ii).length ((turns nn ii).map Value.bool)∧Below w.heap.size w W':=by
  obtain ⟨i0,hi,hz0,hz1,hz2⟩:=info_parts info_bool
  refine callsIn_of_wp_marks Tryz.func55 rfl trivial ?_ rfl
  simp only [Tryz.ntmps55,List.size_toArray,List.length_cons,List.length_nil,Nat.reduceAdd,Nat.reduceSub,Array.replicate_succ,Array.replicate_zero,List.push_toArray,List.append_toArray,List.nil_append,List.cons_append]
  by_cases h1:0≤ii∧ii < nn
  · have e1:turns nn ii=(downV nn.toNat nn ii).reverse:=if_pos h1
    obtain ⟨h1,h2⟩:=h1
    gi_wp2
    have bN:=Boxed.new w 3 (.int .i64 nn)
    have bI:=Boxed.new (w.alloc (.cells #[.int .i64 nn] 3)) 3 (.int .i64 ii)
    have bO:=Boxed.new ((w.alloc (.cells #[.int .i64 nn] 3)).alloc (.cells #[.int .i64 ii] 3)) 121 (.slice none 0 0)
    have hB0:Below w.heap.size w (((w.alloc (.cells #[.int .i64 nn] 3)).alloc (.cells #[.int .i64 ii] 3)).alloc (.cells #[.slice none 0 0] 121)):=((((Below.refl _ w).alloc (Nat.le_refl _) _).alloc (by simp) _).alloc (by simp; omega) _)
    have bN2:=(bN.alloc (.cells #[.int .i64 ii] 3)).alloc (.cells #[.slice none 0 0] 121)
    have bI2:=bI.alloc (.cells #[.slice none 0 0] 121)
    simp only [World.size_alloc] at bI2 bO
    refine wpIn_rangeFunc_ownG (n:=m) rfl hm (gf:=107) (lb:=#[.pointer (some ⟨w.heap.size,0,none⟩),.pointer (some ⟨w.heap.size+1,0,none⟩)]) rfl trivial (enters_of Tryz.func107 (by kernel_rfl) rfl)
      (sides1_stops (m-1) w.heap.size (w.heap.size+1) w.heap.size nn ii h1 h2 h3 _ (by simp; omega) (by simp) bN2.cell bI2.cell) belowK_t (belowK_b (by simp; omega)) (Below.refl _ _) (fun _=>rfl)
      (fun pre W=>(∃ v,Boxed W (w.heap.size+1+1) 121 v∧W.ownsRow w.heap.size 4 1 v pre.length (pre.reverse.map Value.bool)∧(v=.slice none 0 0 ↔ pre=[]))∧Below w.heap.size w W)
      (fun _ _ _=>False)
      (OwnFrom.and (Own.from (holdsRow_own w.heap.size (w.heap.size+1+1) 121 4 1 (fun pre:List Bool=>pre.length) (fun pre=>pre.reverse.map Value.bool) (fun pre v=>v=.slice none 0 0 ↔ pre=[])) _) (ownFrom_below (Nat.le_refl _) (by simp; omega)))
      (fun _ _ _ _ _ hs _ _=>hs)
      ⟨⟨_,bO,World.ownsRow_nil _ _ _ _,by simp⟩,hB0⟩
      (fun x=>{ tmps:=#[.int .i64 nn,.int .i64 ii,.pointer (some ⟨w.heap.size,0,none⟩),.pointer (some ⟨w.heap.size+1,0,none⟩),.slice none 0 0,.pointer (some ⟨w.heap.size+1+1,0,none⟩),.bool x,.int .i64 ii,.bool (decide (ii < 0)),.bool (decide (ii < 0)),.int .i64 ii,.int .i64 nn,.bool (decide (nn≤ii)),.bool (decide (ii < 0) || decide (nn≤ii)),undef,.func (.func 107) #[] #[.pointer (some ⟨w.heap.size,0,none⟩),.pointer (some ⟨w.heap.size+1,0,none⟩)],.bool x,undef,undef,undef,undef,undef],defers:=[] }) ?assign ?body ?done ?stop
    case assign =>
      intro l x W K hK
      gi_wp2
      exact hK
    case body =>
      rintro l pre x W ⟨⟨v,hv,hrow,hnil⟩,hB⟩ hlt
      have hdl:=downV_len nn.toNat nn ii
      have hc:=hv.cell
      have hc1:=(hv.alloc (.cells #[.bool x] 4)).cell
      have hown1:(W.alloc (.cells #[.bool x] 4)).ownsRow w.heap.size 4 1 (.slice (some ⟨W.heap.size,0,none⟩) 1 1) 1 [.bool x]:=⟨rfl,.inr ⟨W.heap.size,1,#[.bool x],rfl,hB.size,World.alloc_heap_new _ _,Nat.le_refl _,by rw [maxLen_eq]; omega,rfl,rfl⟩⟩
      have hne:some (w.heap.size+1+1)≠some W.heap.size:=fun e=>by have:=hv.lt; simp at e; omega
      cases pre with
      | nil =>
        obtain rfl:=hnil.2 rfl
        have hb1:=hv.alloc (.cells #[.bool x] 4)
        have hf1:=hb1.frozen
        gi_wp2_with (gi_at_builtin; refine wpListIn_append_zero _ rfl _ _ 121 rfl 4 i0 Tryz.underlying121 hi (some ⟨W.heap.size,0,none⟩) none 1 1 0 (by omega) rfl rfl ?_)
        have hown2:=hown1.kept (grownBy_setCell' _ (w.heap.size+1+1) (.slice (some ⟨W.heap.size,0,none⟩) 1 1)) (.inr (hb1.not_row (by decide) hown1).symm)
        have hbel:Below w.heap.size W ((W.alloc (.cells #[.bool x] 4)).setCell ⟨w.heap.size+1+1,0,none⟩ (.slice (some ⟨W.heap.size,0,none⟩) 1 1)):=((Below.refl w.heap.size W).alloc hB.size _).setCell (p:=⟨w.heap.size+1+1,0,none⟩) (by simp; omega) _
        exact ⟨((KeepsOthers.alloc W _).trans (KeepsOthers.setCell _ _ _)).from _,hbel,⟨_,hb1.set _,hown2,by simp⟩,hB.trans hbel⟩
      | cons y pre =>
        obtain ⟨g',cap',rfl⟩:=ownsRow_succ hrow
        have hcells:=own_cell (hrow.alloc (.cells #[.bool x] 4))
        gi_wp2_with (gi_at_builtin; refine wpListIn_append_own _ rfl _ _ 121 rfl w.heap.size 4 i0 (.bool false) 1 1 Tryz.underlying121 hi hz0 hz1 hz2 rfl (by decide) _ 1 [.bool x] rfl hown1 ⟨g',0,none⟩ ((y::pre).length) cap' (((y::pre).reverse).map Value.bool) rfl (by simp) hcells (by intro u hu; obtain ⟨b,_,rfl⟩:=List.mem_map.1 hu; rfl) (by rw [maxLen_eq]; omega) (by omega) (by have:=hB.size; simp; omega) ?_; intro v' w1 hown' hgrow hnn; rw [Nat.add_comm] at hown'; obtain ⟨g2,cap2,rfl⟩:=ownsRow_succ hown'; have hgrow:(W.alloc (.cells #[.bool x] 4)).grownBy w1 (some W.heap.size):=hgrow; have hv1:=(hv.alloc (.cells #[.bool x] 4)).kept hgrow hne; have hcb:=hv1.cell; have hfb:=hv1.frozen; clear hnn)
        have hown2:=hown'.kept (grownBy_setCell' _ (w.heap.size+1+1) (.slice (some ⟨g2,0,none⟩) ((y::pre).length+1) cap2)) (.inr (hv1.not_row (by decide) hown').symm)
        have hbel:Below w.heap.size W (w1.setCell ⟨w.heap.size+1+1,0,none⟩ (.slice (some ⟨g2,0,none⟩) ((y::pre).length+1) cap2)):=(((Below.refl w.heap.size W).alloc hB.size _).grown hgrow (by have:=hB.size; simp; omega) (fun j ej=>by cases ej; exact hB.size)).setCell (p:=⟨w.heap.size+1+1,0,none⟩) (by simp; omega) _
        have hko:KeepsOthers W (w1.setCell ⟨w.heap.size+1+1,0,none⟩ (.slice (some ⟨g2,0,none⟩) ((y::pre).length+1) cap2)):=((KeepsOthers.alloc W _).trans (KeepsOthers.of_grownBy hgrow fun j o ej hj=>by
          cases ej
          rw [World.alloc_heap_new] at hj
          cases hj; rfl)).trans (KeepsOthers.setCell _ _ _)
        exact ⟨hko.from _,hbel,⟨_,hv1.set _,by simpa using hown2,by simp⟩,hB.trans hbel⟩
    case done =>
      rintro D ys W hD rfl ⟨⟨v,hv,hrow,_⟩,hB⟩ hK
      have hc:=hv.cell
      gi_wp2
      refine ⟨by simp,.inl ⟨_,_,rfl,run_takeDeferred hK,?_⟩⟩
      exact ⟨_,results_tmp rfl _ _ _,v,rfl,by rw [e1,List.length_reverse]; exact ownsRow_putObj hrow _ hK rfl,hB.trans (belowK_b (w:=w) (Nat.le_refl _) W D _ _ (by simp at hD; omega) hK rfl rfl)⟩
    case stop =>
      rintro D c pre W _ _ h _
      exact h.elim
  · have e1:turns nn ii=[]:=if_neg h1
    have h2:0≤ii→nn≤ii:=by omega
    clear h1
    rw [e1]
    have hB0:Below w.heap.size w (((w.alloc (.cells #[.int .i64 nn] 3)).alloc (.cells #[.int .i64 ii] 3)).alloc (.cells #[.slice none 0 0] 121)):=((((Below.refl _ w).alloc (Nat.le_refl _) _).alloc (by simp) _).alloc (by simp; omega) _)
    gi_wp2
    all_goals refine ⟨_,results_tmp rfl _ _ _,_,rfl,World.ownsRow_nil _ _ _ _,hB0⟩
theorem cell_parts {w:World} {p:Addr} {v:Value} (h:w.cell? p=some v):p.spot=none∧p.block < w.heap.size:=by
  unfold World.cell? at h
  split at h
  · rename_i hb
    split at h
    · cases h
    · rename_i hs
      refine ⟨by simpa using hs,?_⟩
      exact (Array.getElem?_eq_some_iff.1 hb).1
  · cases h
theorem keep_of_below {B:Nat} {w w':World} (h:Below B w w'):Keep B [] w w':=⟨h.os,h.tape,h.output,h.size,fun k hk _=>h.block k hk⟩
theorem row_back {S0:Snap} {w0 w:World} {v:Value} {e:TypeId} {T:Ty} (hT:T.size=1) {xs:List Value} {es:List AV} (ha:∀ p v,S0 p=some v→w0.cell? p=some v) (hb:Below w0.heap.size w0 w)
    (hrow:w.ownsRow w0.heap.size e 1 v es.length xs) (hrep:∀ (i:Nat) y,es[i]?=some y→∃ u,xs[i]?=some u∧∀ S,Rep S T [u] y) :
    ∃ S v',(Ending.returned v)=.returned v'∧S0.le S∧(∀ p u,S p=some u→S0 p=some u∨w0.heap.size≤p.block)∧(∀ p u,S p=some u→w.cell? p=some u) ∧
      Keep w0.heap.size [] w0 w∧ResRel S w w0.heap.size [.val (.slice T)] ⟨[.slice es],[],true⟩ v'∧OutsRel S w [] [] []:=by
  have hold:∀ p u,S0 p=some u→w.cell? p=some u:=fun p u h=>by
    have h1:=ha p u h
    exact (hb.cell (cell_parts h1).2).trans h1
  have hcells:=fun g cap (hv:v=.slice (some ⟨g,0,none⟩) es.length cap)=>own_cell (g:=g) (cap:=cap) (by rw [← hv]; exact hrow)
  rcases hrow.2 with ⟨rfl,h0⟩ | ⟨g,cap,cur,rfl,hg,hh,h1,h2,h3,h4⟩
  · have he:es=[]:=List.length_eq_zero_iff.1 h0
    subst he
    refine ⟨S0,_,rfl,Snap.le_refl _,fun p u h=>.inl h,hold,keep_of_below hb,⟨_,rfl,⟨[.slice none 0 0],(val_one rfl _).symm,none,0,0,[],rfl,rfl,rfl,Nat.le_refl _,Nat.zero_le _,fun _=>rfl,fun p hp=>by cases hp⟩,fun _=>⟨T,rfl,.inl rfl⟩⟩,rfl,rfl⟩
  · have hoff:S0.off g 0:=fun p hp _=>by
      cases hs:S0 p with
      | none=>rfl
      | some u=>have:=(cell_parts (ha p u hs)).2; omega
    have hlen:xs.length=es.length:=by rw [hrow.1]; simp
    refine ⟨S0.plus g 0 xs,_,rfl,Snap.le_plus _ _ _ _,fun p u h=>?_,fun p u h=>?_,keep_of_below hb,⟨_,rfl,⟨[.slice (some ⟨g,0,none⟩) es.length cap],(val_one rfl _).symm,some ⟨g,0,none⟩,es.length,cap,es,rfl,rfl,rfl,h1,h2,(fun h=>by cases h),fun p hp i y hy=>?_⟩,fun _=>⟨T,rfl,.inr ⟨g,es.length,cap,cur.toList,rfl,hg,⟨e,by rw [hh]⟩,by rw [hT]; simpa using h3,h1,h2,?_⟩⟩⟩,rfl,rfl⟩
    · rcases Snap.plus_new h with k | ⟨k,_⟩
      · exact .inl k
      · exact .inr (by rw [k]; exact hg)
    · rcases Snap.plus_new h with k | ⟨k1,k2,_,k4⟩
      · exact hold p u k
      · have:=hcells g cap rfl p.off u (by simpa using k4)
        rw [← this]
        congr 1
        cases p
        simp at k1 k2
        subst k1 k2
        unfold Addr.add
        split <;> simp_all
    · cases hp
      obtain ⟨u,hu,hr⟩:=hrep i y hy
      refine ⟨[u],?_,by rw [hT]; rfl,hr _⟩
      intro j w hj
      have h5:=Snap.plus_has xs hoff i u hu
      match j,hj with
      | 0,hj =>
        cases hj
        rw [hT,Nat.mul_one]
        rw [show ((⟨g,0,none⟩:Addr).add i).add 0=(⟨g,0,none⟩:Addr).add i by simp [Addr.add]]
        exact h5
    · have:=Snap.plus_off xs hoff
      rw [Nat.zero_add,hlen] at this
      rw [hT,Nat.mul_one]
      exact this
theorem sides_sat {xs:List AV} {r:Res} (h:sidesX xs=some r):Sat Tryz.prog f55_info 55 xs r:=by
  intro S0 w0 vs bs ha hargs _
  obtain ⟨v1,vs1,x1,xs1,rfl,rfl,hv1,v2,vs2,x2,xs2,rfl,rfl,hv2,rfl,rfl,rfl⟩:=hargs
  obtain ⟨cs1,rfl,n,rfl,rfl,_⟩:=hv1
  obtain ⟨cs2,rfl,i,rfl,rfl,_⟩:=hv2
  unfold sidesX at h
  simp only [toInt_i] at h
  cases hb:leI n 1048576 with
  | false=>rw [hb] at h; cases h
  | true =>
  rw [hb,cond_true] at h
  cases h
  have h3:=leI_iff.1 hb
  rw [val_one rfl,val_one rfl]
  have e1:(bif leI 0 i&&ltI i n then sidesV n.toNat n i else [])=(turns n i).map AV.bool:=by
    unfold turns
    by_cases hc:0≤i∧i < n
    · rw [if_pos hc,leI_t hc.1,ltI_t hc.2,← sides_down]; rfl
    · rw [if_neg hc]
      by_cases h0:0≤i
      · rw [ltI_f (by omega),Bool.and_false]; rfl
      · rw [leI_f (by omega)]; rfl
  rw [e1]
  refine (callsIn_wide.1 (sides_in 3 (by omega) n i h3 w0)).mono fun e w' he=>?_
  obtain ⟨v,rfl,hrow,hbel⟩:=he
  refine row_back (T:=.bool) rfl ha hbel (by rw [List.length_map]; exact hrow) ?_
  intro j y hy
  rw [List.getElem?_map] at hy ⊢
  cases hj:(turns n i)[j]? with
  | none=>rw [hj] at hy; cases hy
  | some b=>rw [hj] at hy; cases hy; exact ⟨_,rfl,fun S=>⟨b,rfl,rfl⟩⟩
end Go.Proofs.YtlkkebfjmbfgpaaGreatDoor.Ev

namespace Go.Proofs.YtlkkebfjmbfgpaaGreatDoor.Ev
open Go Go.RowKit Go.Shelf
theorem hits_count (zs:List Int) (level:Int):(Tryz.hits zs 0 level zs.length).length=countV zs level:=by
  have key:∀ (zs:List Int),(Tryz.hits zs 0 level zs.length).length=countV zs level:=by
    intro zs
    unfold Tryz.hits countV
    rw [List.length_map]
    have e:zs=(List.range zs.length).map fun j=>zs[j]?.getD 0:=by
      apply List.ext_getElem?
      intro j
      rw [List.getElem?_map]
      by_cases h:j < zs.length
      · rw [List.getElem?_range h,List.getElem?_eq_getElem h]
        simp [List.getElem?_eq_getElem h]
      · rw [List.getElem?_eq_none (by omega),List.getElem?_eq_none (by simpa using h)]; rfl
    conv=>rhs; rw [e]
    rw [List.filter_map,List.length_map]
    congr 1
  exact key zs
theorem count_sat {xs:List AV} {r:Res} (h:countX xs=some r):Sat Tryz.prog f312_info 312 xs r:=by
  intro S0 w0 vs bs ha hargs _
  obtain ⟨v1,vs1,x1,xs1,rfl,rfl,hv1,v3,vs3,x3,xs3,rfl,rfl,hv3,rfl,rfl,rfl⟩:=hargs
  obtain ⟨cs1,rfl,a,len,cap,es,rfl,rfl,hlen,hlc,hcap,hc0,hes⟩:=hv1
  obtain ⟨cs3,rfl,i,rfl,rfl,_⟩:=hv3
  unfold countX at h
  simp only [toInt_i,toSlice_s] at h
  cases hb:Nat.ble es.length 1000000 with
  | false=>rw [hb] at h; cases h
  | true =>
  rw [hb,cond_true] at h
  cases h
  have h3:=Nat.le_of_ble_eq_true hb
  rw [val_one rfl,val_one rfl]
  have hlen2:(es.map AV.toInt).length=len:=by rw [List.length_map]; exact hlen
  have hcell:∀ p,a=some p→∀ j,j < len→w0.cell? (p.add j)=some (.int .i64 ((es.map AV.toInt)[j]?.getD 0)):=by
    intro p hp j hj
    have hj2:j < es.length:=by omega
    obtain ⟨ds,h1,h2,h4⟩:=hes p hp j es[j] (by rw [List.getElem?_eq_getElem hj2])
    obtain ⟨z,rfl,hz,_⟩:=h4
    have h5:=h1 0 _ rfl
    rw [show (p.add (j*Ty.size (.int .i64))).add 0=p.add j by simp [Addr.add,Ty.size]] at h5
    rw [ha _ _ h5,List.getElem?_map,List.getElem?_eq_getElem hj2,hz]
    rfl
  have key:∃ b off,(a=some ⟨b,off,none⟩∨len=0)∧(0 < len→b < w0.heap.size)∧∀ j,j < len→w0.cell? ⟨b,off+j,none⟩=some (.int .i64 ((es.map AV.toInt)[j]?.getD 0)):=by
    by_cases h0:len=0
    · exact ⟨0,0,.inr h0,fun h=>by omega,fun j hj=>by omega⟩
    · cases a with
      | none=>have:=hc0 rfl; omega
      | some p =>
        have c0:=hcell p rfl 0 (by omega)
        rw [show p.add 0=p by simp [Addr.add]] at c0
        have c1:=cell_parts c0
        refine ⟨p.block,p.off,.inl ?_,fun _=>c1.2,fun j hj=>?_⟩
        · cases p; simp at c1; simp [c1.1]
        · rw [← hcell p rfl j hj]
          congr 1
          cases p
          simp at c1
          simp [Addr.add,c1.1]
  obtain ⟨b,off,had,hbl,hc⟩:=key
  have hP:=Tryz.count_in 3 (by omega) a b off len cap had i (es.map AV.toInt) (by omega) w0 hbl hc
  refine (callsIn_wide.1 hP).mono fun e w' he=>?_
  obtain ⟨rfl,hbel⟩:=he
  rw [← hlen2,hits_count]
  have hle:countV (es.map AV.toInt) i≤es.length:=by
    unfold countV
    have:=List.length_filter_le (fun z=>decide (i≤z)) (es.map AV.toInt)
    rw [List.length_map] at this
    exact this
  refine ⟨S0,_,rfl,Snap.le_refl _,fun p u h=>.inl h,fun p u h=>?_,keep_of_below hbel,⟨.int _,rfl,VRep.int_mk ?_,fun h=>by cases h⟩,rfl,rfl⟩
  · have h1:=ha p u h
    exact (hbel.cell (cell_parts h1).2).trans h1
  · have hw:=wrap_wf .i64 (countV (es.map AV.toInt) i:Int)
    rwa [w64 (by omega) (by omega)] at hw
end Go.Proofs.YtlkkebfjmbfgpaaGreatDoor.Ev

namespace Go.Proofs
open Go Go.RowKit Go.Maps Go.WideMaps
theorem Tryz.under9:Tryz.prog.underlying 9=some .string:=by kernel_rfl
theorem Tryz.under147:Tryz.prog.underlying 147=some (.map 9 3):=by kernel_rfl
theorem Tryz.under3:Tryz.prog.underlying 3=some (.int .i64):=by kernel_rfl
theorem Tryz.keyed9:Keyed Tryz.prog 9:=string_keyed Tryz.under9
theorem Tryz.zero3 (w:World):(zeroValue 3).run Tryz.prog w=.ok (.int .i64 0) w:=by kernel_rfl
theorem Tryz.mapNil147 (m:Nat) (w:World):Sem.run Tryz.prog (binOp BinOp.eql 147 (Value.map (some m)) (Value.map none)) w=Result.ok (Value.bool false) w:=by kernel_rfl
def Tryz.StoreAt (w:World) (q m:Nat) (room:Int) (n:Nat) (D:DataW Unit):Prop :=
  w.cell? ⟨q,0,none⟩=some (.int .i64 room)∧w.cell? ⟨q,1,none⟩=some (.map (some m))∧w.ownsMap Tryz.prog 9 (plainElem Tryz.prog 3) m n D∧q≠m∧q < w.heap.size
theorem Tryz.StoreAt.kept {w w':World} {q m n:Nat} {room:Int} {D:DataW Unit} (h:Tryz.StoreAt w q m room n D) (hq:w'.heap[q]?=w.heap[q]?) (hm:w'.heap[m]?=w.heap[m]?) (hs:w.heap.size≤w'.heap.size):Tryz.StoreAt w' q m room n D:=by
  obtain ⟨c0,c1,⟨es,ck,h1,h2⟩,hne,hlt⟩:=h
  exact ⟨(World.cell?_of_block hq).trans c0,(World.cell?_of_block hq).trans c1,⟨es,ck,hm.trans h1,h2⟩,hne,Nat.lt_of_lt_of_le hlt hs⟩
set_option maxRecDepth 100000 in
theorem Tryz.storeNew (n:Int) (w:World) :
    Calls Tryz.prog 35 #[.int .i64 n] w fun e w'=>e=.returned (.pointer (some ⟨w.heap.size+1,0,none⟩))∧Tryz.StoreAt w' (w.heap.size+1) w.heap.size n 0 (.map [])∧w'.heap.size=w.heap.size+2∧Below w.heap.size w w':=by
  have hmm:=@run_makeMap Tryz.prog
  go_enter Tryz.func35,Tryz.ntmps35
  go_wp2
  have h1:w.heap.size < w.heap.size+1:=by omega
  refine bodyPost_ret (results_tmp rfl _ _ _) rfl ⟨rfl,⟨?_,?_,?_,by omega,?_⟩,?_,?_⟩
  · go_simp
  · go_simp
  · exact (World.ownsMap_made w Tryz.prog 9 (plainElem Tryz.prog 3)).alloc _
  · go_simp
  · go_simp
  · exact ((Below.refl _ w).alloc (Nat.le_refl _) _).alloc (by go_simp) _
end Go.Proofs

namespace Go.Proofs.YtlkkebfjmbfgpaaGreatDoor.Ev
open Go Go.RowKit
set_option maxRecDepth 100000
noncomputable def f125_body:Code:=bodyOf Tryz.f125
noncomputable def f125_info:FnInfo:=⟨[.val (.slice (.int .i64)),.val (.int .i64),.val (.int .i64)],[.val (.slice (.int .i64))],19,[.tmp 6],f125_body,[],true,true⟩
noncomputable def f41_body:Code:=bodyOf Tryz.f41
noncomputable def f41_info:FnInfo:=⟨[.val .str,.val .str],[.val (.slice .str)],8,[.tmp 4],f41_body,[],false,true⟩
noncomputable def f10_info:FnInfo:=⟨[],[.val (.blob 32)],10,[.cell 0 32],bodyOf Tryz.f10,[(0,([0,1,2],[0,1]))],false,false⟩
noncomputable def f11_info:FnInfo:=⟨[.val (.blob 32)],[.val .str],18,[.tmp 2],bodyOf Tryz.f11,[(0,([1,3,4],[1,5]))],false,false⟩
def py0:PTy:=.val (.struct [(.int .u32),(.blob 32),(.blob 32),(.int .u64)])
noncomputable def f27_info:FnInfo:=⟨[py0],[.val .str],18,[.tmp 2],bodyOf Tryz.f27,[],false,false⟩
noncomputable def f60_info:FnInfo:=⟨[.val .str],[.val .str],6,[.tmp 2],bodyOf Tryz.f60,[],false,false⟩
noncomputable def f26_info:FnInfo:=⟨[.val .str],[.val (.blob 32)],6,[.cell 2 32],bodyOf Tryz.f26,[],false,false⟩
noncomputable def f12_info:FnInfo:=⟨[py0],[.val (.blob 32)],6,[.cell 2 32],bodyOf Tryz.f12,[],false,false⟩
def py1:PTy:=.val (.struct [(.struct [(.int .u32),(.blob 32),(.blob 32),(.int .u64)]),(.slice .str)])
noncomputable def f120_info:FnInfo:=⟨[py1],[.val (.blob 32)],6,[.cell 2 32],bodyOf Tryz.f120,[],false,false⟩
noncomputable def f182_info:FnInfo:=⟨[.val .str,.val (.int .i64)],[.val (.int .u64)],8,[.tmp 4],bodyOf Tryz.f182,[],false,false⟩
def py2:PTy:=.val (.arr 4 (.int .u64))
noncomputable def f131_info:FnInfo:=⟨[.val (.blob 32)],[py2],18,[.cell 2 211],bodyOf Tryz.f131,[(0,([1,2,3,5],[1,2,3]))],false,false⟩
noncomputable def f130_info:FnInfo:=⟨[py2,py2],[.val (.int .i64)],28,[.tmp 4],bodyOf Tryz.f130,[(0,([2,3,8],[2,3]))],false,false⟩
noncomputable def f77_info:FnInfo:=⟨[.val (.blob 32),.val (.blob 32)],[.val .bool],11,[.tmp 4],bodyOf Tryz.f77,[],false,false⟩
def py3:PTy:=.val (.struct [(.struct [(.struct [(.int .u32),(.blob 32),(.blob 32),(.int .u64)]),(.blob 32),(.int .i64),(.int .i64),(.int .i64),(.int .i64),(.int .i64),(.int .i64)]),(.int .i64),(.struct [(.struct [(.int .u32),(.blob 32),(.blob 32),(.int .u64)]),(.slice .str)]),(.slice (.blob 32))])
noncomputable def f116_info:FnInfo:=⟨[py3],[.val (.int .i64)],11,[.tmp 2],bodyOf Tryz.f116,[],false,false⟩
noncomputable def f217_info:FnInfo:=⟨[.val (.slice .str)],[.val (.int .i64)],18,[.tmp 2],bodyOf Tryz.f217,[(0,([8,9,10],[]))],false,false⟩
noncomputable def f176_info:FnInfo:=⟨[.val (.blob 32)],[.val .str],6,[.tmp 2],bodyOf Tryz.f176,[],false,false⟩
def py4:PTy:=.val (.slice (.blob 32))
noncomputable def f123_info:FnInfo:=⟨[py4],[.val (.slice .str)],19,[.tmp 2],bodyOf Tryz.f123,[(0,([3,6,7,8],[]))],true,false⟩
noncomputable def f219_info:FnInfo:=⟨[.val (.slice .str),.val .fn],[py4],22,[.tmp 4],bodyOf Tryz.f219,[(0,([1,5,8,9,10],[]))],true,false⟩
noncomputable def f175_info:FnInfo:=⟨[.val (.slice .str)],[py4],5,[.tmp 2],bodyOf Tryz.f175,[],true,false⟩
noncomputable def f224_info:FnInfo:=⟨[py4],[py4,py4],14,[.tmp 2,.tmp 3],bodyOf Tryz.f224,[],false,false⟩
noncomputable def f181_info:FnInfo:=⟨[py4],[.val (.blob 32)],25,[.cell 2 32],bodyOf Tryz.f181,[],false,false⟩
noncomputable def f129_info:FnInfo:=⟨[.val (.slice .str)],[.val (.blob 32)],10,[.cell 2 32],bodyOf Tryz.f129,[],false,false⟩
noncomputable def f76_info:FnInfo:=⟨[py4],[.val (.blob 32)],6,[.cell 2 32],bodyOf Tryz.f76,[],false,false⟩
noncomputable def f307_info:FnInfo:=⟨[.val .str],[.val .str],5,[.tmp 2],bodyOf Tryz.f307,[],false,false⟩
noncomputable def f287_info:FnInfo:=⟨[.val (.slice .str)],[.val (.slice .str)],19,[.tmp 2],bodyOf Tryz.f287,[(0,([3,6,7,8],[]))],true,false⟩
noncomputable def f256_info:FnInfo:=⟨[.val (.slice .str)],[.val (.blob 32)],6,[.cell 2 32],bodyOf Tryz.f256,[],false,false⟩
noncomputable def f218_info:FnInfo:=⟨[.val (.int .u32),py4,.val (.slice .str),.val (.int .u64)],[py1],21,[.cell 8 47],bodyOf Tryz.f218,[],false,false⟩
noncomputable def f169_info:FnInfo:=⟨[py1,.val (.int .u32),py4],[.val (.int .i64)],31,[.tmp 6],bodyOf Tryz.f169,[],false,false⟩
noncomputable def f115_info:FnInfo:=⟨[py3],[.val (.int .i64)],11,[.tmp 2],bodyOf Tryz.f115,[],false,false⟩
noncomputable def f114_info:FnInfo:=⟨[py3],[.val (.int .i64)],15,[.tmp 2],bodyOf Tryz.f114,[],false,false⟩
noncomputable def f170_info:FnInfo:=⟨[.val (.blob 32)],[py4],5,[.tmp 2],bodyOf Tryz.f170,[],true,false⟩
noncomputable def f172_info:FnInfo:=⟨[py2,.val (.int .i64)],[py2],59,[.cell 4 211],bodyOf Tryz.f172,[(0,([2,4,5,6,7,21,22],[2,4,5]))],false,false⟩
noncomputable def f119_info:FnInfo:=⟨[.val (.blob 32),.val (.blob 32)],[.val (.int .i64)],25,[.tmp 4],bodyOf Tryz.f119,[(0,([5,6,7,13],[5,6]))],false,false⟩
noncomputable def f171_info:FnInfo:=⟨[py4,.val (.blob 32),.val (.int .i64)],[py4],64,[.tmp 6],bodyOf Tryz.f171,[(0,([0,2,4,7,8,30,31],[4,8,22])),(2,([4,7,8,48,49],[4,8,22]))],false,false⟩
noncomputable def f117_info:FnInfo:=⟨[.val (.blob 32),py4,py1,.val (.int .i64)],[py4],22,[.tmp 8],bodyOf Tryz.f117,[],false,false⟩
def py5:PTy:=.val (.struct [(.struct [(.int .u32),(.blob 32),(.blob 32),(.int .u64)]),(.blob 32),(.int .i64),(.int .i64),(.int .i64),(.int .i64),(.int .i64),(.int .i64)])
def py6:PTy:=.val (.slice (.struct [(.struct [(.int .u32),(.blob 32),(.blob 32),(.int .u64)]),(.slice .str)]))
def py7:PTy:=.val (.struct [(.int .i64),(.int .i64)])
noncomputable def f63_info:FnInfo:=⟨[py5,py6],[py7],62,[.cell 4 127],bodyOf Tryz.f63,[(1,([2,4,1000005,22,23,24],[4])),(3,([2,4,5,6,7,22,23,24,40,41,42],[4,7]))],false,false⟩
noncomputable def f118_info:FnInfo:=⟨[.val (.int .i64),.val (.int .i64)],[.val .bool],16,[.tmp 4],bodyOf Tryz.f118,[],false,false⟩
noncomputable def f64_info:FnInfo:=⟨[.val (.int .i64),.val (.int .i64),.val (.int .i64),.val (.int .i64)],[.val .bool],28,[.tmp 8],bodyOf Tryz.f64,[],false,false⟩
noncomputable def f28_info:FnInfo:=⟨[py5,py6],[.val (.int .i64)],31,[.tmp 4],bodyOf Tryz.f28,[],false,false⟩
def py8:PTy:=.val (.slice (.int .i64))
noncomputable def f65_info:FnInfo:=⟨[.val (.blob 32),py6],[py8],28,[.tmp 4],bodyOf Tryz.f65,[(0,([2,5,9,10,11],[2]))],true,false⟩
noncomputable def f124_info:FnInfo:=⟨[py8],[.val (.int .i64)],21,[.tmp 2],bodyOf Tryz.f124,[(0,([3,6,7,8],[]))],false,false⟩
def py9:PTy:=.val (.arr 5 (.int .u64))
noncomputable def f324_info:FnInfo:=⟨[py9,.val (.int .u64)],[py9,.val .bool],44,[.cell 4 340,.tmp 5],bodyOf Tryz.f324,[(0,([1,2,4,6,7,11],[2,4,6]))],false,false⟩
noncomputable def f325_info:FnInfo:=⟨[py9,py9],[py9,.val .bool],51,[.cell 4 340,.tmp 5],bodyOf Tryz.f325,[(0,([2,3,4,6,7,11],[2,3,4,6]))],false,false⟩
noncomputable def f322_info:FnInfo:=⟨[py9,.val (.int .u64)],[py9,.val .bool],42,[.cell 4 340,.tmp 5],bodyOf Tryz.f322,[],false,false⟩
noncomputable def f318_info:FnInfo:=⟨[.val (.int .u32),.val (.int .u32),.val (.int .i64)],[py9,.val .bool],31,[.cell 6 340,.tmp 7],bodyOf Tryz.f318,[],false,false⟩
noncomputable def f308_info:FnInfo:=⟨[.val (.int .u32),.val (.int .u32),.val (.int .i64),.val (.int .i64),.val (.int .i64)],[py9,py9,.val .bool],43,[.cell 10 340,.cell 11 340,.tmp 12],bodyOf Tryz.f308,[],false,false⟩
noncomputable def f288_info:FnInfo:=⟨[.val (.int .u32),.val (.int .u32),.val (.int .i64),.val (.int .i64),.val (.int .i64)],[.val .bool],31,[.tmp 10],bodyOf Tryz.f288,[],false,false⟩
noncomputable def f257_info:FnInfo:=⟨[.val (.int .i64),.val (.int .i64),.val (.int .i64),.val (.int .i64),.val (.int .i64)],[.val .bool],35,[.tmp 10],bodyOf Tryz.f257,[],false,false⟩
noncomputable def f221_info:FnInfo:=⟨[py8,.val (.int .i64),.val (.int .i64),.val (.int .i64),.val (.int .i64)],[.val .bool],43,[.tmp 10],bodyOf Tryz.f221,[(0,([0,1,3,4,11,12],[]))],false,false⟩
noncomputable def f258_info:FnInfo:=⟨[py8,.val (.int .i64)],[py8],39,[.tmp 4],bodyOf Tryz.f258,[(0,([1,5,12,13,14],[11]))],false,false⟩
noncomputable def f289_info:FnInfo:=⟨[.val (.int .u32),.val (.int .u32),.val (.int .i64),.val (.int .i64),.val (.int .i64)],[.val .bool],31,[.tmp 10],bodyOf Tryz.f289,[],false,false⟩
noncomputable def f259_info:FnInfo:=⟨[py8,py8,.val (.int .i64),.val (.int .i64),.val (.int .i64),.val (.int .i64)],[.val .bool],63,[.tmp 12],bodyOf Tryz.f259,[(0,([0,1,2,3,4,5,18,19],[])),(2,([0,1,2,3,4,5,13,14,18,19],[]))],false,false⟩
noncomputable def f222_info:FnInfo:=⟨[py8,.val (.int .i64),.val (.int .i64),.val (.int .i64),.val (.int .i64)],[.val .bool],42,[.tmp 10],bodyOf Tryz.f222,[(0,([0,1,2,3,4,11,24,25],[]))],false,false⟩
noncomputable def f178_info:FnInfo:=⟨[py8,.val (.int .i64),.val (.int .i64),.val (.int .i64),.val (.int .i64)],[.val .bool],25,[.tmp 10],bodyOf Tryz.f178,[],false,false⟩
noncomputable def f126_info:FnInfo:=⟨[py8,.val (.int .i64),.val (.int .i64),.val (.int .i64),.val (.int .i64),.val (.int .i64)],[.val (.int .i64)],49,[.tmp 12],bodyOf Tryz.f126,[],false,false⟩
noncomputable def f69_info:FnInfo:=⟨[py8,.val (.int .i64),.val (.int .i64),.val (.int .i64),.val (.int .i64)],[py8],86,[.tmp 10],bodyOf Tryz.f69,[(0,([1,3,4,11,12,13,14],[45])),(2,([1,3,4,11,12,13,14,55,56,57],[45])),(4,([17,72,73,74],[45]))],true,false⟩
noncomputable def f30_info:FnInfo:=⟨[py5,py6],[py8],43,[.tmp 4],bodyOf Tryz.f30,[(0,([1,5,6],[]))],true,false⟩
def py10:PTy:=.val (.slice (.slice (.blob 32)))
noncomputable def f66_info:FnInfo:=⟨[.val (.blob 32),py6],[py10],29,[.tmp 4],bodyOf Tryz.f66,[(0,([2,5,9,10,11],[2]))],true,false⟩
noncomputable def f173_info:FnInfo:=⟨[py8,.val (.int .i64),.val (.int .i64)],[.val (.int .i64)],24,[.tmp 6],bodyOf Tryz.f173,[(0,([0,2,7],[]))],false,false⟩
noncomputable def f121_info:FnInfo:=⟨[py8,.val (.int .i64)],[py8],34,[.tmp 4],bodyOf Tryz.f121,[(0,([0,1,5,17],[]))],true,false⟩
noncomputable def f67_info:FnInfo:=⟨[py8,.val (.int .i64),.val (.int .i64)],[.val (.int .i64)],23,[.tmp 6],bodyOf Tryz.f67,[(0,([2,11,12,13],[]))],false,false⟩
noncomputable def f174_info:FnInfo:=⟨[py4,.val (.int .i64)],[py4],39,[.tmp 4],bodyOf Tryz.f174,[],true,false⟩
def py11:PTy:=.val (.struct [(.int .i64),(.int .i64),(.slice (.blob 32))])
noncomputable def f122_info:FnInfo:=⟨[.val (.slice .str),.val (.int .i64)],[py11,.val (.int .i64)],29,[.cell 4 26,.tmp 5],bodyOf Tryz.f122,[],false,false⟩
noncomputable def f68_info:FnInfo:=⟨[py4,.val (.int .i64)],[py11,.val (.int .i64)],12,[.cell 4 26,.tmp 5],bodyOf Tryz.f68,[],false,false⟩
def py12:PTy:=.val (.slice (.struct [(.struct [(.int .u32),(.blob 32),(.blob 32),(.int .u64)]),(.struct [(.int .i64),(.int .i64),(.slice (.blob 32))])]))
noncomputable def f29_info:FnInfo:=⟨[.val (.blob 32),py6,py8],[py12,.val (.int .i64)],76,[.tmp 6,.tmp 7],bodyOf Tryz.f29,[(0,([1,2,8,9,10,23,24,25],[]))],false,false⟩
noncomputable def f13_info:FnInfo:=⟨[py5,py6],[py12,.val (.int .i64)],22,[.tmp 4,.tmp 5],bodyOf Tryz.f13,[],false,false⟩
noncomputable def f34_info:FnInfo:=⟨[py5],[.val (.int .i64)],50,[.tmp 2],bodyOf Tryz.f34,[],false,false⟩
def py13:PTy:=.ptr (.struct [(.struct [.str,(.int .i64)])])
noncomputable def f132_info:FnInfo:=⟨[.val .str],[py13],7,[.tmp 2],bodyOf Tryz.f132,[],false,false⟩
noncomputable def f226_info:FnInfo:=⟨[.val .str],[.val (.int .u64),.val (.int .i64),.val (.int .i64)],52,[.tmp 2,.tmp 3,.tmp 4],bodyOf Tryz.f226,[(3000000,([0,5,6],[]))],false,false⟩
def py14:PTy:=.ptr (.struct [.str,(.int .i64)])
noncomputable def f228_info:FnInfo:=⟨[py14,.val (.int .i64)],[],20,[],bodyOf Tryz.f228,[],false,false⟩
noncomputable def f184_info:FnInfo:=⟨[py13,.val (.int .i64)],[],11,[],bodyOf Tryz.f184,[],false,false⟩
noncomputable def f227_info:FnInfo:=⟨[py14,.val (.int .i64)],[.val .str],43,[.tmp 4],bodyOf Tryz.f227,[],false,false⟩
noncomputable def f183_info:FnInfo:=⟨[py13,.val (.int .u64)],[.val (.int .u64)],46,[.tmp 4],bodyOf Tryz.f183,[],false,false⟩
noncomputable def f185_info:FnInfo:=⟨[py13],[.val (.int .i64)],10,[.tmp 2],bodyOf Tryz.f185,[],false,false⟩
noncomputable def f260_info:FnInfo:=⟨[py13,.val (.int .i64)],[.val .str],20,[.tmp 4],bodyOf Tryz.f260,[],false,false⟩
noncomputable def f229_info:FnInfo:=⟨[py13],[py0],29,[.cell 2 45],bodyOf Tryz.f229,[],false,false⟩
noncomputable def f246_info:FnInfo:=⟨[py13],[.val (.blob 32)],9,[.cell 2 32],bodyOf Tryz.f246,[],false,false⟩
noncomputable def f230_info:FnInfo:=⟨[py13],[py11],45,[.cell 2 26],bodyOf Tryz.f230,[(0,([0,2,4,5],[0,1,2,3,4,5,6,7,8,9,10,11,12,13,14,15,16,17,18,19,20,21,22,23,24,25,26,27,28,29,30,31,32,33,34,35,36,37,38,39,40,41,42,43,44]))],false,false⟩
def py15:PTy:=.val (.struct [(.struct [(.int .u32),(.blob 32),(.blob 32),(.int .u64)]),(.struct [(.int .i64),(.int .i64),(.slice (.blob 32))])])
noncomputable def f186_info:FnInfo:=⟨[py13],[py15],15,[.cell 2 134],bodyOf Tryz.f186,[],false,false⟩
noncomputable def f133_info:FnInfo:=⟨[py13],[py12],29,[.tmp 2],bodyOf Tryz.f133,[(0,([0,3,4],[0]))],true,false⟩
noncomputable def f187_info:FnInfo:=⟨[py13],[.val (.int .i64)],11,[.tmp 2],bodyOf Tryz.f187,[],false,false⟩
noncomputable def f134_info:FnInfo:=⟨[py13],[.val (.int .i64)],13,[.tmp 2],bodyOf Tryz.f134,[],false,false⟩
noncomputable def f78_info:FnInfo:=⟨[.val .str],[py12,.val (.int .i64)],17,[.tmp 2,.tmp 3],bodyOf Tryz.f78,[],false,false⟩
noncomputable def f223_info:FnInfo:=⟨[py11,py11],[.val .bool],45,[.tmp 4],bodyOf Tryz.f223,[(0,([2,3,29,30],[2,3]))],false,false⟩
noncomputable def f179_info:FnInfo:=⟨[py11],[.val .bool],6,[.tmp 2],bodyOf Tryz.f179,[],false,false⟩
noncomputable def f135_info:FnInfo:=⟨[py0,py12],[.val (.int .i64)],23,[.tmp 4],bodyOf Tryz.f135,[],false,false⟩
def py16:PTy:=.val (.slice (.struct [(.clos [(188,([],[0])),(190,([],[0,1])),(191,([],[0]))] [(.pat (.slice (.struct [(.struct [(.int .u32),(.blob 32),(.blob 32),(.int .u64)]),(.struct [(.int .i64),(.int .i64),(.slice (.blob 32))])]))),(.pat (.struct [(.struct [(.int .u32),(.blob 32),(.blob 32),(.int .u64)]),(.blob 32),(.int .i64),(.int .i64),(.int .i64),(.int .i64),(.int .i64),(.int .i64)]))]),(.int .i64)]))
noncomputable def f136_info:FnInfo:=⟨[py5,py12],[py16],12,[.tmp 4],bodyOf Tryz.f136,[],true,false⟩
noncomputable def f231_info:FnInfo:=⟨[.val (.blob 32),.val (.blob 32),py11],[.val .bool],17,[.tmp 6],bodyOf Tryz.f231,[],false,false⟩
noncomputable def f192_info:FnInfo:=⟨[py15,py0],[.val .bool],13,[.tmp 4],bodyOf Tryz.f192,[],false,false⟩
def py17:PTy:=.val (.pat (.slice (.struct [(.struct [(.int .u32),(.blob 32),(.blob 32),(.int .u64)]),(.struct [(.int .i64),(.int .i64),(.slice (.blob 32))])])))
noncomputable def f191_info:FnInfo:=⟨[.val (.int .i64),py17],[.val .bool],19,[.tmp 3],bodyOf Tryz.f191,[],false,false⟩
def py18:PTy:=.val (.pat (.struct [(.struct [(.int .u32),(.blob 32),(.blob 32),(.int .u64)]),(.blob 32),(.int .i64),(.int .i64),(.int .i64),(.int .i64),(.int .i64),(.int .i64)]))
noncomputable def f190_info:FnInfo:=⟨[.val (.int .i64),py17,py18],[.val .bool],14,[.tmp 4],bodyOf Tryz.f190,[],false,false⟩
noncomputable def f189_info:FnInfo:=⟨[py0,py0],[.val .bool],10,[.tmp 4],bodyOf Tryz.f189,[],false,false⟩
noncomputable def f188_info:FnInfo:=⟨[.val (.int .i64),py17],[.val .bool],20,[.tmp 3],bodyOf Tryz.f188,[],false,false⟩
noncomputable def f232_info:FnInfo:=⟨[py0,py0],[.val .bool],16,[.tmp 4],bodyOf Tryz.f232,[],false,false⟩
noncomputable def f193_info:FnInfo:=⟨[py12],[.val (.int .i64)],38,[.tmp 2],bodyOf Tryz.f193,[(0,([0,3,4],[]))],false,false⟩
noncomputable def f137_info:FnInfo:=⟨[py12,.val (.int .i64)],[.val (.int .i64)],9,[.tmp 4],bodyOf Tryz.f137,[],false,false⟩
noncomputable def f80_info:FnInfo:=⟨[py5,py12],[py7],55,[.cell 4 127],bodyOf Tryz.f80,[(0,([1,2,4,6,23,24],[4])),(2,([1,2,4,6,7,23,24,27,28,29],[4]))],false,false⟩
def py19:PTy:=.val (.slice (.struct [(.int .u32),(.blob 32),(.blob 32),(.int .u64)]))
noncomputable def f145_info:FnInfo:=⟨[py19],[py4],19,[.tmp 2],bodyOf Tryz.f145,[(0,([3,6,7,8],[]))],true,false⟩
noncomputable def f85_info:FnInfo:=⟨[py12],[py4],20,[.tmp 2],bodyOf Tryz.f85,[(0,([3,6,7,8],[]))],true,false⟩
noncomputable def f86_info:FnInfo:=⟨[.val (.blob 32),py12],[py8],29,[.tmp 4],bodyOf Tryz.f86,[(0,([2,5,9,10,11],[2]))],true,false⟩
def py20:PTy:=.val (.struct [(.slice (.blob 32)),(.slice (.int .i64))])
noncomputable def f39_info:FnInfo:=⟨[.val (.blob 32),py12],[py20],11,[.cell 4 98],bodyOf Tryz.f39,[],false,false⟩
noncomputable def f296_info:FnInfo:=⟨[py4,.val (.blob 32)],[.val (.int .i64)],19,[.tmp 4],bodyOf Tryz.f296,[(0,([3,7,8,9],[3]))],false,false⟩
noncomputable def f272_info:FnInfo:=⟨[py4,py4],[.val (.int .i64),.val (.int .i64)],25,[.tmp 4,.tmp 5],bodyOf Tryz.f272,[(0,([0,1,6],[]))],false,false⟩
noncomputable def f274_info:FnInfo:=⟨[py20,.val (.int .i64)],[py8],20,[.tmp 4],bodyOf Tryz.f274,[],false,false⟩
def py21:PTy:=.val (.struct [(.arr 5 (.int .u64)),(.int .i64)])
noncomputable def f235_info:FnInfo:=⟨[py20,py20,.val (.int .i64)],[py21,py21,.val .bool],33,[.cell 6 342,.cell 7 342,.tmp 8],bodyOf Tryz.f235,[],false,false⟩
noncomputable def f197_info:FnInfo:=⟨[py20,py20,.val (.int .i64)],[.val (.int .i64)],25,[.tmp 6],bodyOf Tryz.f197,[],false,false⟩
def py22:PTy:=.val (.slice (.struct [(.slice (.blob 32)),(.slice (.int .i64))]))
def py23:PTy:=.val (.slice (.slice (.int .i64)))
noncomputable def f147_info:FnInfo:=⟨[py22,.val (.int .i64)],[py23],37,[.tmp 4],bodyOf Tryz.f147,[(0,([0,1,5,11,12,13],[])),(2,([0,1,5,7,8,11,12,13,17,18,19],[7]))],true,false⟩
noncomputable def f149_info:FnInfo:=⟨[py23,.val (.int .i64),.val (.int .i64)],[.val .bool],38,[.tmp 6],bodyOf Tryz.f149,[],false,false⟩
noncomputable def f89_info:FnInfo:=⟨[py23],[py8],35,[.tmp 2],bodyOf Tryz.f89,[(0,([0,3,8,9],[])),(2,([0,3,4,5,8,9,13,14],[]))],true,false⟩
noncomputable def f128_info:FnInfo:=⟨[.val (.int .u64)],[.val .str],20,[.tmp 2],bodyOf Tryz.f128,[(0,([0,3],[]))],false,false⟩
noncomputable def f156_info:FnInfo:=⟨[.val (.int .i64)],[.val .str],14,[.tmp 2],bodyOf Tryz.f156,[],false,false⟩
noncomputable def f155_info:FnInfo:=⟨[.val (.slice .str)],[.val .str],6,[.tmp 2],bodyOf Tryz.f155,[],false,false⟩
noncomputable def f93_info:FnInfo:=⟨[.val (.int .i64)],[.val .str],7,[.tmp 2],bodyOf Tryz.f93,[],false,false⟩
noncomputable def f42_info:FnInfo:=⟨[.val .str],[.val (.slice .str)],21,[.tmp 2],bodyOf Tryz.f42,[(0,([3,7,8,9],[]))],true,false⟩
noncomputable def G2:Env:={
  ty:=[(3,(.int .i64)),(4,.bool),(5,(.int .u8)),(9,.str),(22,(.slice .str)),(24,(.slice (.blob 32))),(26,(.struct [(.int .i64),(.int .i64),(.slice (.blob 32))])),(32,(.blob 32)),(34,(.int .i64)),(42,(.int .u32)),(43,(.int .u64)),(45,(.struct [(.int .u32),(.blob 32),(.blob 32),(.int .u64)])),(47,(.struct [(.struct [(.int .u32),(.blob 32),(.blob 32),(.int .u64)]),(.slice .str)])),(50,(.struct [(.struct [(.int .u32),(.blob 32),(.blob 32),(.int .u64)]),(.blob 32),(.int .i64),(.int .i64),(.int .i64),(.int .i64),(.int .i64),(.int .i64)])),(53,(.slice (.struct [(.struct [(.int .u32),(.blob 32),(.blob 32),(.int .u64)]),(.struct [(.int .i64),(.int .i64),(.slice (.blob 32))])]))),(56,(.slice (.struct [(.struct [(.int .u32),(.blob 32),(.blob 32),(.int .u64)]),(.slice .str)]))),(76,(.slice (.int .u8))),(80,(.slice (.int .i64))),(98,(.struct [(.slice (.blob 32)),(.slice (.int .i64))])),(121,(.slice .bool)),(127,(.struct [(.int .i64),(.int .i64)])),(131,(.slice (.slice (.blob 32)))),(134,(.struct [(.struct [(.int .u32),(.blob 32),(.blob 32),(.int .u64)]),(.struct [(.int .i64),(.int .i64),(.slice (.blob 32))])])),(164,(.slice (.slice (.int .i64)))),(193,(.struct [(.struct [(.struct [(.int .u32),(.blob 32),(.blob 32),(.int .u64)]),(.blob 32),(.int .i64),(.int .i64),(.int .i64),(.int .i64),(.int .i64),(.int .i64)]),(.int .i64),(.struct [(.struct [(.int .u32),(.blob 32),(.blob 32),(.int .u64)]),(.slice .str)]),(.slice (.blob 32))])),(194,(.clos [(114,([0],[])),(115,([0],[])),(116,([0],[]))] [(.struct [(.struct [(.struct [(.int .u32),(.blob 32),(.blob 32),(.int .u64)]),(.blob 32),(.int .i64),(.int .i64),(.int .i64),(.int .i64),(.int .i64),(.int .i64)]),(.int .i64),(.struct [(.struct [(.int .u32),(.blob 32),(.blob 32),(.int .u64)]),(.slice .str)]),(.slice (.blob 32))])])),(195,(.slice (.clos [(114,([0],[])),(115,([0],[])),(116,([0],[]))] [(.struct [(.struct [(.struct [(.int .u32),(.blob 32),(.blob 32),(.int .u64)]),(.blob 32),(.int .i64),(.int .i64),(.int .i64),(.int .i64),(.int .i64),(.int .i64)]),(.int .i64),(.struct [(.struct [(.int .u32),(.blob 32),(.blob 32),(.int .u64)]),(.slice .str)]),(.slice (.blob 32))])]))),(211,(.arr 4 (.int .u64))),(217,(.slice (.struct [(.clos [(188,([],[0])),(190,([],[0,1])),(191,([],[0]))] [(.pat (.slice (.struct [(.struct [(.int .u32),(.blob 32),(.blob 32),(.int .u64)]),(.struct [(.int .i64),(.int .i64),(.slice (.blob 32))])]))),(.pat (.struct [(.struct [(.int .u32),(.blob 32),(.blob 32),(.int .u64)]),(.blob 32),(.int .i64),(.int .i64),(.int .i64),(.int .i64),(.int .i64),(.int .i64)]))]),(.int .i64)]))),(219,(.clos [(188,([],[0])),(190,([],[0,1])),(191,([],[0]))] [(.pat (.slice (.struct [(.struct [(.int .u32),(.blob 32),(.blob 32),(.int .u64)]),(.struct [(.int .i64),(.int .i64),(.slice (.blob 32))])]))),(.pat (.struct [(.struct [(.int .u32),(.blob 32),(.blob 32),(.int .u64)]),(.blob 32),(.int .i64),(.int .i64),(.int .i64),(.int .i64),(.int .i64),(.int .i64)]))])),(221,(.struct [(.clos [(188,([],[0])),(190,([],[0,1])),(191,([],[0]))] [(.pat (.slice (.struct [(.struct [(.int .u32),(.blob 32),(.blob 32),(.int .u64)]),(.struct [(.int .i64),(.int .i64),(.slice (.blob 32))])]))),(.pat (.struct [(.struct [(.int .u32),(.blob 32),(.blob 32),(.int .u64)]),(.blob 32),(.int .i64),(.int .i64),(.int .i64),(.int .i64),(.int .i64),(.int .i64)]))]),(.int .i64)])),(238,(.slice (.struct [(.int .u32),(.blob 32),(.blob 32),(.int .u64)]))),(241,(.slice (.struct [(.slice (.blob 32)),(.slice (.int .i64))]))),(251,(.int .u64)),(273,(.struct [.str,(.int .i64)])),(275,(.struct [(.struct [.str,(.int .i64)])])),(312,(.arr 16 .str)),(340,(.arr 5 (.int .u64))),(342,(.struct [(.arr 5 (.int .u64)),(.int .i64)]))]
  bytes:=[(22,16),(24,32),(53,120),(76,1),(80,8),(121,1),(131,24),(164,24),(238,80)]
  fns:=[(46,{ f46_info with ext:=true }),(164,f164_info),(59,{ f59_info with ext:=true }),(125,f125_info),(55,f55_info),(312,f312_info),(41,f41_info),(100,f100_info),(103,f103_info),(50,f50_info),(21,f21_info),(48,f48_info),(101,f101_info),(102,f102_info),(49,f49_info),(20,f20_info),(99,f99_info),(47,f47_info),(19,f19_info),(5,f5_info),(10,f10_info),(11,f11_info),(113,f113_info),(61,f61_info),(62,f62_info),(27,f27_info),(106,f106_info),(60,f60_info),(26,f26_info),(12,f12_info),(120,f120_info),(225,f225_info),(182,f182_info),(131,f131_info),(130,f130_info),(77,f77_info),(116,f116_info),(217,f217_info),(176,f176_info),(123,f123_info),(52,f52_info),(104,f104_info),(219,f219_info),(175,f175_info),(165,f165_info),(224,f224_info),(54,f54_info),(105,f105_info),(181,f181_info),(56,f56_info),(58,f58_info),(129,f129_info),(76,f76_info),(307,f307_info),(287,f287_info),(256,f256_info),(218,f218_info),(169,f169_info),(115,f115_info),(114,f114_info),(170,f170_info),(172,f172_info),(119,f119_info),(171,f171_info),(117,f117_info),(63,f63_info),(118,f118_info),(64,f64_info),(28,f28_info),(65,f65_info),(124,f124_info),(311,f311_info),(324,f324_info),(323,f323_info),(319,f319_info),(310,f310_info),(325,f325_info),(322,f322_info),(318,f318_info),(308,f308_info),(236,f236_info),(288,f288_info),(257,f257_info),(221,f221_info),(258,f258_info),(289,f289_info),(259,f259_info),(222,f222_info),(178,f178_info),(126,f126_info),(69,f69_info),(30,f30_info),(66,f66_info),(173,f173_info),(121,f121_info),(67,f67_info),(174,f174_info),(122,f122_info),(68,f68_info),(29,f29_info),(13,f13_info),(34,f34_info),(132,f132_info),(226,f226_info),(228,f228_info),(184,f184_info),(227,f227_info),(183,f183_info),(185,f185_info),(260,f260_info),(252,f252_info),(229,f229_info),(109,f109_info),(246,f246_info),(230,f230_info),(186,f186_info),(133,f133_info),(187,f187_info),(134,f134_info),(78,f78_info),(223,f223_info),(179,f179_info),(135,f135_info),(136,f136_info),(57,f57_info),(51,f51_info),(24,f24_info),(8,f8_info),(231,f231_info),(192,f192_info),(191,f191_info),(190,f190_info),(189,f189_info),(188,f188_info),(232,f232_info),(193,f193_info),(137,f137_info),(80,f80_info),(145,f145_info),(85,f85_info),(86,f86_info),(39,f39_info),(296,f296_info),(272,f272_info),(274,f274_info),(297,f297_info),(298,f298_info),(273,f273_info),(235,f235_info),(197,f197_info),(147,f147_info),(149,f149_info),(89,f89_info),(128,f128_info),(156,f156_info),(155,f155_info),(93,f93_info),(42,f42_info)]
  ptrs:=[213]
  made:=[]
  froz:=[50,53] }
end Go.Proofs.YtlkkebfjmbfgpaaGreatDoor.Ev

namespace Go.Proofs.YtlkkebfjmbfgpaaGreatDoor.Ev
open Go Go.RowKit
set_option maxRecDepth 100000
theorem f125_ok:FnOk Tryz.prog 125 f125_info Tryz.f125:=⟨Tryz.func125,by kernel_rfl,by kernel_rfl,by kernel_rfl,Nat.le_of_ble_eq_true (by kernel_rfl),by kernel_rfl⟩
theorem f41_ok:FnOk Tryz.prog 41 f41_info Tryz.f41:=⟨Tryz.func41,by kernel_rfl,by kernel_rfl,by kernel_rfl,Nat.le_of_ble_eq_true (by kernel_rfl),by kernel_rfl⟩
theorem f10_ok:FnOk Tryz.prog 10 f10_info Tryz.f10:=⟨Tryz.func10,by kernel_rfl,by kernel_rfl,by kernel_rfl,Nat.le_of_ble_eq_true (by kernel_rfl),by kernel_rfl⟩
theorem f11_ok:FnOk Tryz.prog 11 f11_info Tryz.f11:=⟨Tryz.func11,by kernel_rfl,by kernel_rfl,by kernel_rfl,Nat.le_of_ble_eq_true (by kernel_rfl),by kernel_rfl⟩
theorem f27_ok:FnOk Tryz.prog 27 f27_info Tryz.f27:=⟨Tryz.func27,by kernel_rfl,by kernel_rfl,by kernel_rfl,Nat.le_of_ble_eq_true (by kernel_rfl),by kernel_rfl⟩
theorem f60_ok:FnOk Tryz.prog 60 f60_info Tryz.f60:=⟨Tryz.func60,by kernel_rfl,by kernel_rfl,by kernel_rfl,Nat.le_of_ble_eq_true (by kernel_rfl),by kernel_rfl⟩
theorem f26_ok:FnOk Tryz.prog 26 f26_info Tryz.f26:=⟨Tryz.func26,by kernel_rfl,by kernel_rfl,by kernel_rfl,Nat.le_of_ble_eq_true (by kernel_rfl),by kernel_rfl⟩
theorem f12_ok:FnOk Tryz.prog 12 f12_info Tryz.f12:=⟨Tryz.func12,by kernel_rfl,by kernel_rfl,by kernel_rfl,Nat.le_of_ble_eq_true (by kernel_rfl),by kernel_rfl⟩
theorem f120_ok:FnOk Tryz.prog 120 f120_info Tryz.f120:=⟨Tryz.func120,by kernel_rfl,by kernel_rfl,by kernel_rfl,Nat.le_of_ble_eq_true (by kernel_rfl),by kernel_rfl⟩
theorem f182_ok:FnOk Tryz.prog 182 f182_info Tryz.f182:=⟨Tryz.func182,by kernel_rfl,by kernel_rfl,by kernel_rfl,Nat.le_of_ble_eq_true (by kernel_rfl),by kernel_rfl⟩
theorem f131_ok:FnOk Tryz.prog 131 f131_info Tryz.f131:=⟨Tryz.func131,by kernel_rfl,by kernel_rfl,by kernel_rfl,Nat.le_of_ble_eq_true (by kernel_rfl),by kernel_rfl⟩
theorem f130_ok:FnOk Tryz.prog 130 f130_info Tryz.f130:=⟨Tryz.func130,by kernel_rfl,by kernel_rfl,by kernel_rfl,Nat.le_of_ble_eq_true (by kernel_rfl),by kernel_rfl⟩
theorem f77_ok:FnOk Tryz.prog 77 f77_info Tryz.f77:=⟨Tryz.func77,by kernel_rfl,by kernel_rfl,by kernel_rfl,Nat.le_of_ble_eq_true (by kernel_rfl),by kernel_rfl⟩
theorem f116_ok:FnOk Tryz.prog 116 f116_info Tryz.f116:=⟨Tryz.func116,by kernel_rfl,by kernel_rfl,by kernel_rfl,Nat.le_of_ble_eq_true (by kernel_rfl),by kernel_rfl⟩
theorem f217_ok:FnOk Tryz.prog 217 f217_info Tryz.f217:=⟨Tryz.func217,by kernel_rfl,by kernel_rfl,by kernel_rfl,Nat.le_of_ble_eq_true (by kernel_rfl),by kernel_rfl⟩
theorem f176_ok:FnOk Tryz.prog 176 f176_info Tryz.f176:=⟨Tryz.func176,by kernel_rfl,by kernel_rfl,by kernel_rfl,Nat.le_of_ble_eq_true (by kernel_rfl),by kernel_rfl⟩
theorem f123_ok:FnOk Tryz.prog 123 f123_info Tryz.f123:=⟨Tryz.func123,by kernel_rfl,by kernel_rfl,by kernel_rfl,Nat.le_of_ble_eq_true (by kernel_rfl),by kernel_rfl⟩
theorem f219_ok:FnOk Tryz.prog 219 f219_info Tryz.f219:=⟨Tryz.func219,by kernel_rfl,by kernel_rfl,by kernel_rfl,Nat.le_of_ble_eq_true (by kernel_rfl),by kernel_rfl⟩
theorem f175_ok:FnOk Tryz.prog 175 f175_info Tryz.f175:=⟨Tryz.func175,by kernel_rfl,by kernel_rfl,by kernel_rfl,Nat.le_of_ble_eq_true (by kernel_rfl),by kernel_rfl⟩
theorem f224_ok:FnOk Tryz.prog 224 f224_info Tryz.f224:=⟨Tryz.func224,by kernel_rfl,by kernel_rfl,by kernel_rfl,Nat.le_of_ble_eq_true (by kernel_rfl),by kernel_rfl⟩
theorem f181_ok:FnOk Tryz.prog 181 f181_info Tryz.f181:=⟨Tryz.func181,by kernel_rfl,by kernel_rfl,by kernel_rfl,Nat.le_of_ble_eq_true (by kernel_rfl),by kernel_rfl⟩
theorem f129_ok:FnOk Tryz.prog 129 f129_info Tryz.f129:=⟨Tryz.func129,by kernel_rfl,by kernel_rfl,by kernel_rfl,Nat.le_of_ble_eq_true (by kernel_rfl),by kernel_rfl⟩
theorem f76_ok:FnOk Tryz.prog 76 f76_info Tryz.f76:=⟨Tryz.func76,by kernel_rfl,by kernel_rfl,by kernel_rfl,Nat.le_of_ble_eq_true (by kernel_rfl),by kernel_rfl⟩
theorem f307_ok:FnOk Tryz.prog 307 f307_info Tryz.f307:=⟨Tryz.func307,by kernel_rfl,by kernel_rfl,by kernel_rfl,Nat.le_of_ble_eq_true (by kernel_rfl),by kernel_rfl⟩
theorem f287_ok:FnOk Tryz.prog 287 f287_info Tryz.f287:=⟨Tryz.func287,by kernel_rfl,by kernel_rfl,by kernel_rfl,Nat.le_of_ble_eq_true (by kernel_rfl),by kernel_rfl⟩
theorem f256_ok:FnOk Tryz.prog 256 f256_info Tryz.f256:=⟨Tryz.func256,by kernel_rfl,by kernel_rfl,by kernel_rfl,Nat.le_of_ble_eq_true (by kernel_rfl),by kernel_rfl⟩
theorem f218_ok:FnOk Tryz.prog 218 f218_info Tryz.f218:=⟨Tryz.func218,by kernel_rfl,by kernel_rfl,by kernel_rfl,Nat.le_of_ble_eq_true (by kernel_rfl),by kernel_rfl⟩
theorem f169_ok:FnOk Tryz.prog 169 f169_info Tryz.f169:=⟨Tryz.func169,by kernel_rfl,by kernel_rfl,by kernel_rfl,Nat.le_of_ble_eq_true (by kernel_rfl),by kernel_rfl⟩
theorem f115_ok:FnOk Tryz.prog 115 f115_info Tryz.f115:=⟨Tryz.func115,by kernel_rfl,by kernel_rfl,by kernel_rfl,Nat.le_of_ble_eq_true (by kernel_rfl),by kernel_rfl⟩
theorem f114_ok:FnOk Tryz.prog 114 f114_info Tryz.f114:=⟨Tryz.func114,by kernel_rfl,by kernel_rfl,by kernel_rfl,Nat.le_of_ble_eq_true (by kernel_rfl),by kernel_rfl⟩
theorem f170_ok:FnOk Tryz.prog 170 f170_info Tryz.f170:=⟨Tryz.func170,by kernel_rfl,by kernel_rfl,by kernel_rfl,Nat.le_of_ble_eq_true (by kernel_rfl),by kernel_rfl⟩
theorem f172_ok:FnOk Tryz.prog 172 f172_info Tryz.f172:=⟨Tryz.func172,by kernel_rfl,by kernel_rfl,by kernel_rfl,Nat.le_of_ble_eq_true (by kernel_rfl),by kernel_rfl⟩
theorem f119_ok:FnOk Tryz.prog 119 f119_info Tryz.f119:=⟨Tryz.func119,by kernel_rfl,by kernel_rfl,by kernel_rfl,Nat.le_of_ble_eq_true (by kernel_rfl),by kernel_rfl⟩
theorem f171_ok:FnOk Tryz.prog 171 f171_info Tryz.f171:=⟨Tryz.func171,by kernel_rfl,by kernel_rfl,by kernel_rfl,Nat.le_of_ble_eq_true (by kernel_rfl),by kernel_rfl⟩
theorem f117_ok:FnOk Tryz.prog 117 f117_info Tryz.f117:=⟨Tryz.func117,by kernel_rfl,by kernel_rfl,by kernel_rfl,Nat.le_of_ble_eq_true (by kernel_rfl),by kernel_rfl⟩
theorem f63_ok:FnOk Tryz.prog 63 f63_info Tryz.f63:=⟨Tryz.func63,by kernel_rfl,by kernel_rfl,by kernel_rfl,Nat.le_of_ble_eq_true (by kernel_rfl),by kernel_rfl⟩
theorem f118_ok:FnOk Tryz.prog 118 f118_info Tryz.f118:=⟨Tryz.func118,by kernel_rfl,by kernel_rfl,by kernel_rfl,Nat.le_of_ble_eq_true (by kernel_rfl),by kernel_rfl⟩
theorem f64_ok:FnOk Tryz.prog 64 f64_info Tryz.f64:=⟨Tryz.func64,by kernel_rfl,by kernel_rfl,by kernel_rfl,Nat.le_of_ble_eq_true (by kernel_rfl),by kernel_rfl⟩
theorem f28_ok:FnOk Tryz.prog 28 f28_info Tryz.f28:=⟨Tryz.func28,by kernel_rfl,by kernel_rfl,by kernel_rfl,Nat.le_of_ble_eq_true (by kernel_rfl),by kernel_rfl⟩
theorem f65_ok:FnOk Tryz.prog 65 f65_info Tryz.f65:=⟨Tryz.func65,by kernel_rfl,by kernel_rfl,by kernel_rfl,Nat.le_of_ble_eq_true (by kernel_rfl),by kernel_rfl⟩
theorem f124_ok:FnOk Tryz.prog 124 f124_info Tryz.f124:=⟨Tryz.func124,by kernel_rfl,by kernel_rfl,by kernel_rfl,Nat.le_of_ble_eq_true (by kernel_rfl),by kernel_rfl⟩
theorem f324_ok:FnOk Tryz.prog 324 f324_info Tryz.f324:=⟨Tryz.func324,by kernel_rfl,by kernel_rfl,by kernel_rfl,Nat.le_of_ble_eq_true (by kernel_rfl),by kernel_rfl⟩
theorem f325_ok:FnOk Tryz.prog 325 f325_info Tryz.f325:=⟨Tryz.func325,by kernel_rfl,by kernel_rfl,by kernel_rfl,Nat.le_of_ble_eq_true (by kernel_rfl),by kernel_rfl⟩
theorem f322_ok:FnOk Tryz.prog 322 f322_info Tryz.f322:=⟨Tryz.func322,by kernel_rfl,by kernel_rfl,by kernel_rfl,Nat.le_of_ble_eq_true (by kernel_rfl),by kernel_rfl⟩
theorem f318_ok:FnOk Tryz.prog 318 f318_info Tryz.f318:=⟨Tryz.func318,by kernel_rfl,by kernel_rfl,by kernel_rfl,Nat.le_of_ble_eq_true (by kernel_rfl),by kernel_rfl⟩
theorem f308_ok:FnOk Tryz.prog 308 f308_info Tryz.f308:=⟨Tryz.func308,by kernel_rfl,by kernel_rfl,by kernel_rfl,Nat.le_of_ble_eq_true (by kernel_rfl),by kernel_rfl⟩
theorem f288_ok:FnOk Tryz.prog 288 f288_info Tryz.f288:=⟨Tryz.func288,by kernel_rfl,by kernel_rfl,by kernel_rfl,Nat.le_of_ble_eq_true (by kernel_rfl),by kernel_rfl⟩
theorem f257_ok:FnOk Tryz.prog 257 f257_info Tryz.f257:=⟨Tryz.func257,by kernel_rfl,by kernel_rfl,by kernel_rfl,Nat.le_of_ble_eq_true (by kernel_rfl),by kernel_rfl⟩
theorem f221_ok:FnOk Tryz.prog 221 f221_info Tryz.f221:=⟨Tryz.func221,by kernel_rfl,by kernel_rfl,by kernel_rfl,Nat.le_of_ble_eq_true (by kernel_rfl),by kernel_rfl⟩
theorem f258_ok:FnOk Tryz.prog 258 f258_info Tryz.f258:=⟨Tryz.func258,by kernel_rfl,by kernel_rfl,by kernel_rfl,Nat.le_of_ble_eq_true (by kernel_rfl),by kernel_rfl⟩
theorem f289_ok:FnOk Tryz.prog 289 f289_info Tryz.f289:=⟨Tryz.func289,by kernel_rfl,by kernel_rfl,by kernel_rfl,Nat.le_of_ble_eq_true (by kernel_rfl),by kernel_rfl⟩
theorem f259_ok:FnOk Tryz.prog 259 f259_info Tryz.f259:=⟨Tryz.func259,by kernel_rfl,by kernel_rfl,by kernel_rfl,Nat.le_of_ble_eq_true (by kernel_rfl),by kernel_rfl⟩
theorem f222_ok:FnOk Tryz.prog 222 f222_info Tryz.f222:=⟨Tryz.func222,by kernel_rfl,by kernel_rfl,by kernel_rfl,Nat.le_of_ble_eq_true (by kernel_rfl),by kernel_rfl⟩
theorem f178_ok:FnOk Tryz.prog 178 f178_info Tryz.f178:=⟨Tryz.func178,by kernel_rfl,by kernel_rfl,by kernel_rfl,Nat.le_of_ble_eq_true (by kernel_rfl),by kernel_rfl⟩
theorem f126_ok:FnOk Tryz.prog 126 f126_info Tryz.f126:=⟨Tryz.func126,by kernel_rfl,by kernel_rfl,by kernel_rfl,Nat.le_of_ble_eq_true (by kernel_rfl),by kernel_rfl⟩
theorem f69_ok:FnOk Tryz.prog 69 f69_info Tryz.f69:=⟨Tryz.func69,by kernel_rfl,by kernel_rfl,by kernel_rfl,Nat.le_of_ble_eq_true (by kernel_rfl),by kernel_rfl⟩
theorem f30_ok:FnOk Tryz.prog 30 f30_info Tryz.f30:=⟨Tryz.func30,by kernel_rfl,by kernel_rfl,by kernel_rfl,Nat.le_of_ble_eq_true (by kernel_rfl),by kernel_rfl⟩
theorem f66_ok:FnOk Tryz.prog 66 f66_info Tryz.f66:=⟨Tryz.func66,by kernel_rfl,by kernel_rfl,by kernel_rfl,Nat.le_of_ble_eq_true (by kernel_rfl),by kernel_rfl⟩
theorem f173_ok:FnOk Tryz.prog 173 f173_info Tryz.f173:=⟨Tryz.func173,by kernel_rfl,by kernel_rfl,by kernel_rfl,Nat.le_of_ble_eq_true (by kernel_rfl),by kernel_rfl⟩
theorem f121_ok:FnOk Tryz.prog 121 f121_info Tryz.f121:=⟨Tryz.func121,by kernel_rfl,by kernel_rfl,by kernel_rfl,Nat.le_of_ble_eq_true (by kernel_rfl),by kernel_rfl⟩
theorem f67_ok:FnOk Tryz.prog 67 f67_info Tryz.f67:=⟨Tryz.func67,by kernel_rfl,by kernel_rfl,by kernel_rfl,Nat.le_of_ble_eq_true (by kernel_rfl),by kernel_rfl⟩
theorem f174_ok:FnOk Tryz.prog 174 f174_info Tryz.f174:=⟨Tryz.func174,by kernel_rfl,by kernel_rfl,by kernel_rfl,Nat.le_of_ble_eq_true (by kernel_rfl),by kernel_rfl⟩
theorem f122_ok:FnOk Tryz.prog 122 f122_info Tryz.f122:=⟨Tryz.func122,by kernel_rfl,by kernel_rfl,by kernel_rfl,Nat.le_of_ble_eq_true (by kernel_rfl),by kernel_rfl⟩
theorem f68_ok:FnOk Tryz.prog 68 f68_info Tryz.f68:=⟨Tryz.func68,by kernel_rfl,by kernel_rfl,by kernel_rfl,Nat.le_of_ble_eq_true (by kernel_rfl),by kernel_rfl⟩
theorem f29_ok:FnOk Tryz.prog 29 f29_info Tryz.f29:=⟨Tryz.func29,by kernel_rfl,by kernel_rfl,by kernel_rfl,Nat.le_of_ble_eq_true (by kernel_rfl),by kernel_rfl⟩
theorem f13_ok:FnOk Tryz.prog 13 f13_info Tryz.f13:=⟨Tryz.func13,by kernel_rfl,by kernel_rfl,by kernel_rfl,Nat.le_of_ble_eq_true (by kernel_rfl),by kernel_rfl⟩
theorem f34_ok:FnOk Tryz.prog 34 f34_info Tryz.f34:=⟨Tryz.func34,by kernel_rfl,by kernel_rfl,by kernel_rfl,Nat.le_of_ble_eq_true (by kernel_rfl),by kernel_rfl⟩
theorem f132_ok:FnOk Tryz.prog 132 f132_info Tryz.f132:=⟨Tryz.func132,by kernel_rfl,by kernel_rfl,by kernel_rfl,Nat.le_of_ble_eq_true (by kernel_rfl),by kernel_rfl⟩
theorem f226_ok:FnOk Tryz.prog 226 f226_info Tryz.f226:=⟨Tryz.func226,by kernel_rfl,by kernel_rfl,by kernel_rfl,Nat.le_of_ble_eq_true (by kernel_rfl),by kernel_rfl⟩
theorem f228_ok:FnOk Tryz.prog 228 f228_info Tryz.f228:=⟨Tryz.func228,by kernel_rfl,by kernel_rfl,by kernel_rfl,Nat.le_of_ble_eq_true (by kernel_rfl),by kernel_rfl⟩
theorem f184_ok:FnOk Tryz.prog 184 f184_info Tryz.f184:=⟨Tryz.func184,by kernel_rfl,by kernel_rfl,by kernel_rfl,Nat.le_of_ble_eq_true (by kernel_rfl),by kernel_rfl⟩
theorem f227_ok:FnOk Tryz.prog 227 f227_info Tryz.f227:=⟨Tryz.func227,by kernel_rfl,by kernel_rfl,by kernel_rfl,Nat.le_of_ble_eq_true (by kernel_rfl),by kernel_rfl⟩
theorem f183_ok:FnOk Tryz.prog 183 f183_info Tryz.f183:=⟨Tryz.func183,by kernel_rfl,by kernel_rfl,by kernel_rfl,Nat.le_of_ble_eq_true (by kernel_rfl),by kernel_rfl⟩
theorem f185_ok:FnOk Tryz.prog 185 f185_info Tryz.f185:=⟨Tryz.func185,by kernel_rfl,by kernel_rfl,by kernel_rfl,Nat.le_of_ble_eq_true (by kernel_rfl),by kernel_rfl⟩
theorem f260_ok:FnOk Tryz.prog 260 f260_info Tryz.f260:=⟨Tryz.func260,by kernel_rfl,by kernel_rfl,by kernel_rfl,Nat.le_of_ble_eq_true (by kernel_rfl),by kernel_rfl⟩
theorem f229_ok:FnOk Tryz.prog 229 f229_info Tryz.f229:=⟨Tryz.func229,by kernel_rfl,by kernel_rfl,by kernel_rfl,Nat.le_of_ble_eq_true (by kernel_rfl),by kernel_rfl⟩
theorem f246_ok:FnOk Tryz.prog 246 f246_info Tryz.f246:=⟨Tryz.func246,by kernel_rfl,by kernel_rfl,by kernel_rfl,Nat.le_of_ble_eq_true (by kernel_rfl),by kernel_rfl⟩
theorem f230_ok:FnOk Tryz.prog 230 f230_info Tryz.f230:=⟨Tryz.func230,by kernel_rfl,by kernel_rfl,by kernel_rfl,Nat.le_of_ble_eq_true (by kernel_rfl),by kernel_rfl⟩
theorem f186_ok:FnOk Tryz.prog 186 f186_info Tryz.f186:=⟨Tryz.func186,by kernel_rfl,by kernel_rfl,by kernel_rfl,Nat.le_of_ble_eq_true (by kernel_rfl),by kernel_rfl⟩
theorem f133_ok:FnOk Tryz.prog 133 f133_info Tryz.f133:=⟨Tryz.func133,by kernel_rfl,by kernel_rfl,by kernel_rfl,Nat.le_of_ble_eq_true (by kernel_rfl),by kernel_rfl⟩
theorem f187_ok:FnOk Tryz.prog 187 f187_info Tryz.f187:=⟨Tryz.func187,by kernel_rfl,by kernel_rfl,by kernel_rfl,Nat.le_of_ble_eq_true (by kernel_rfl),by kernel_rfl⟩
theorem f134_ok:FnOk Tryz.prog 134 f134_info Tryz.f134:=⟨Tryz.func134,by kernel_rfl,by kernel_rfl,by kernel_rfl,Nat.le_of_ble_eq_true (by kernel_rfl),by kernel_rfl⟩
theorem f78_ok:FnOk Tryz.prog 78 f78_info Tryz.f78:=⟨Tryz.func78,by kernel_rfl,by kernel_rfl,by kernel_rfl,Nat.le_of_ble_eq_true (by kernel_rfl),by kernel_rfl⟩
theorem f223_ok:FnOk Tryz.prog 223 f223_info Tryz.f223:=⟨Tryz.func223,by kernel_rfl,by kernel_rfl,by kernel_rfl,Nat.le_of_ble_eq_true (by kernel_rfl),by kernel_rfl⟩
theorem f179_ok:FnOk Tryz.prog 179 f179_info Tryz.f179:=⟨Tryz.func179,by kernel_rfl,by kernel_rfl,by kernel_rfl,Nat.le_of_ble_eq_true (by kernel_rfl),by kernel_rfl⟩
theorem f135_ok:FnOk Tryz.prog 135 f135_info Tryz.f135:=⟨Tryz.func135,by kernel_rfl,by kernel_rfl,by kernel_rfl,Nat.le_of_ble_eq_true (by kernel_rfl),by kernel_rfl⟩
theorem f136_ok:FnOk Tryz.prog 136 f136_info Tryz.f136:=⟨Tryz.func136,by kernel_rfl,by kernel_rfl,by kernel_rfl,Nat.le_of_ble_eq_true (by kernel_rfl),by kernel_rfl⟩
theorem f231_ok:FnOk Tryz.prog 231 f231_info Tryz.f231:=⟨Tryz.func231,by kernel_rfl,by kernel_rfl,by kernel_rfl,Nat.le_of_ble_eq_true (by kernel_rfl),by kernel_rfl⟩
theorem f192_ok:FnOk Tryz.prog 192 f192_info Tryz.f192:=⟨Tryz.func192,by kernel_rfl,by kernel_rfl,by kernel_rfl,Nat.le_of_ble_eq_true (by kernel_rfl),by kernel_rfl⟩
theorem f191_ok:FnOk Tryz.prog 191 f191_info Tryz.f191:=⟨Tryz.func191,by kernel_rfl,by kernel_rfl,by kernel_rfl,Nat.le_of_ble_eq_true (by kernel_rfl),by kernel_rfl⟩
theorem f190_ok:FnOk Tryz.prog 190 f190_info Tryz.f190:=⟨Tryz.func190,by kernel_rfl,by kernel_rfl,by kernel_rfl,Nat.le_of_ble_eq_true (by kernel_rfl),by kernel_rfl⟩
theorem f189_ok:FnOk Tryz.prog 189 f189_info Tryz.f189:=⟨Tryz.func189,by kernel_rfl,by kernel_rfl,by kernel_rfl,Nat.le_of_ble_eq_true (by kernel_rfl),by kernel_rfl⟩
theorem f188_ok:FnOk Tryz.prog 188 f188_info Tryz.f188:=⟨Tryz.func188,by kernel_rfl,by kernel_rfl,by kernel_rfl,Nat.le_of_ble_eq_true (by kernel_rfl),by kernel_rfl⟩
theorem f232_ok:FnOk Tryz.prog 232 f232_info Tryz.f232:=⟨Tryz.func232,by kernel_rfl,by kernel_rfl,by kernel_rfl,Nat.le_of_ble_eq_true (by kernel_rfl),by kernel_rfl⟩
theorem f193_ok:FnOk Tryz.prog 193 f193_info Tryz.f193:=⟨Tryz.func193,by kernel_rfl,by kernel_rfl,by kernel_rfl,Nat.le_of_ble_eq_true (by kernel_rfl),by kernel_rfl⟩
theorem f137_ok:FnOk Tryz.prog 137 f137_info Tryz.f137:=⟨Tryz.func137,by kernel_rfl,by kernel_rfl,by kernel_rfl,Nat.le_of_ble_eq_true (by kernel_rfl),by kernel_rfl⟩
theorem f80_ok:FnOk Tryz.prog 80 f80_info Tryz.f80:=⟨Tryz.func80,by kernel_rfl,by kernel_rfl,by kernel_rfl,Nat.le_of_ble_eq_true (by kernel_rfl),by kernel_rfl⟩
theorem f145_ok:FnOk Tryz.prog 145 f145_info Tryz.f145:=⟨Tryz.func145,by kernel_rfl,by kernel_rfl,by kernel_rfl,Nat.le_of_ble_eq_true (by kernel_rfl),by kernel_rfl⟩
theorem f85_ok:FnOk Tryz.prog 85 f85_info Tryz.f85:=⟨Tryz.func85,by kernel_rfl,by kernel_rfl,by kernel_rfl,Nat.le_of_ble_eq_true (by kernel_rfl),by kernel_rfl⟩
theorem f86_ok:FnOk Tryz.prog 86 f86_info Tryz.f86:=⟨Tryz.func86,by kernel_rfl,by kernel_rfl,by kernel_rfl,Nat.le_of_ble_eq_true (by kernel_rfl),by kernel_rfl⟩
theorem f39_ok:FnOk Tryz.prog 39 f39_info Tryz.f39:=⟨Tryz.func39,by kernel_rfl,by kernel_rfl,by kernel_rfl,Nat.le_of_ble_eq_true (by kernel_rfl),by kernel_rfl⟩
theorem f296_ok:FnOk Tryz.prog 296 f296_info Tryz.f296:=⟨Tryz.func296,by kernel_rfl,by kernel_rfl,by kernel_rfl,Nat.le_of_ble_eq_true (by kernel_rfl),by kernel_rfl⟩
theorem f272_ok:FnOk Tryz.prog 272 f272_info Tryz.f272:=⟨Tryz.func272,by kernel_rfl,by kernel_rfl,by kernel_rfl,Nat.le_of_ble_eq_true (by kernel_rfl),by kernel_rfl⟩
theorem f274_ok:FnOk Tryz.prog 274 f274_info Tryz.f274:=⟨Tryz.func274,by kernel_rfl,by kernel_rfl,by kernel_rfl,Nat.le_of_ble_eq_true (by kernel_rfl),by kernel_rfl⟩
theorem f235_ok:FnOk Tryz.prog 235 f235_info Tryz.f235:=⟨Tryz.func235,by kernel_rfl,by kernel_rfl,by kernel_rfl,Nat.le_of_ble_eq_true (by kernel_rfl),by kernel_rfl⟩
theorem f197_ok:FnOk Tryz.prog 197 f197_info Tryz.f197:=⟨Tryz.func197,by kernel_rfl,by kernel_rfl,by kernel_rfl,Nat.le_of_ble_eq_true (by kernel_rfl),by kernel_rfl⟩
theorem f147_ok:FnOk Tryz.prog 147 f147_info Tryz.f147:=⟨Tryz.func147,by kernel_rfl,by kernel_rfl,by kernel_rfl,Nat.le_of_ble_eq_true (by kernel_rfl),by kernel_rfl⟩
theorem f149_ok:FnOk Tryz.prog 149 f149_info Tryz.f149:=⟨Tryz.func149,by kernel_rfl,by kernel_rfl,by kernel_rfl,Nat.le_of_ble_eq_true (by kernel_rfl),by kernel_rfl⟩
theorem f89_ok:FnOk Tryz.prog 89 f89_info Tryz.f89:=⟨Tryz.func89,by kernel_rfl,by kernel_rfl,by kernel_rfl,Nat.le_of_ble_eq_true (by kernel_rfl),by kernel_rfl⟩
theorem f128_ok:FnOk Tryz.prog 128 f128_info Tryz.f128:=⟨Tryz.func128,by kernel_rfl,by kernel_rfl,by kernel_rfl,Nat.le_of_ble_eq_true (by kernel_rfl),by kernel_rfl⟩
theorem f156_ok:FnOk Tryz.prog 156 f156_info Tryz.f156:=⟨Tryz.func156,by kernel_rfl,by kernel_rfl,by kernel_rfl,Nat.le_of_ble_eq_true (by kernel_rfl),by kernel_rfl⟩
theorem f155_ok:FnOk Tryz.prog 155 f155_info Tryz.f155:=⟨Tryz.func155,by kernel_rfl,by kernel_rfl,by kernel_rfl,Nat.le_of_ble_eq_true (by kernel_rfl),by kernel_rfl⟩
theorem f93_ok:FnOk Tryz.prog 93 f93_info Tryz.f93:=⟨Tryz.func93,by kernel_rfl,by kernel_rfl,by kernel_rfl,Nat.le_of_ble_eq_true (by kernel_rfl),by kernel_rfl⟩
theorem f42_ok:FnOk Tryz.prog 42 f42_info Tryz.f42:=⟨Tryz.func42,by kernel_rfl,by kernel_rfl,by kernel_rfl,Nat.le_of_ble_eq_true (by kernel_rfl),by kernel_rfl⟩
theorem f46_ok2:FnOk Tryz.prog 46 { f46_info with ext:=true } Tryz.f46:=⟨f46_ok.at_,f46_ok.body,f46_ok.results,f46_ok.ntmps,f46_ok.params,f46_ok.name⟩
theorem f59_ok2:FnOk Tryz.prog 59 { f59_info with ext:=true } Tryz.f59:=⟨f59_ok.at_,f59_ok.body,f59_ok.results,f59_ok.ntmps,f59_ok.params,f59_ok.name⟩
theorem types2_ok:TyAll Tryz.prog G2:=tyAll_of (by kernel_rfl) (by kernel_rfl) (by kernel_rfl) (by kernel_rfl)
theorem fns2_ok:FnsAll Tryz.prog G2.fns:=⟨⟨_,f46_ok2⟩,⟨⟨_,f164_ok⟩,⟨⟨_,f59_ok2⟩,⟨⟨_,f125_ok⟩,⟨⟨_,f55_ok⟩,⟨⟨_,f312_ok⟩,⟨⟨_,f41_ok⟩,⟨⟨_,f100_ok⟩,⟨⟨_,f103_ok⟩,⟨⟨_,f50_ok⟩,⟨⟨_,f21_ok⟩,⟨⟨_,f48_ok⟩,⟨⟨_,f101_ok⟩,⟨⟨_,f102_ok⟩,⟨⟨_,f49_ok⟩,⟨⟨_,f20_ok⟩,⟨⟨_,f99_ok⟩,⟨⟨_,f47_ok⟩,⟨⟨_,f19_ok⟩,⟨⟨_,f5_ok⟩,⟨⟨_,f10_ok⟩,⟨⟨_,f11_ok⟩,⟨⟨_,f113_ok⟩,⟨⟨_,f61_ok⟩,⟨⟨_,f62_ok⟩,⟨⟨_,f27_ok⟩,⟨⟨_,f106_ok⟩,⟨⟨_,f60_ok⟩,⟨⟨_,f26_ok⟩,⟨⟨_,f12_ok⟩,⟨⟨_,f120_ok⟩,⟨⟨_,f225_ok⟩,⟨⟨_,f182_ok⟩,⟨⟨_,f131_ok⟩,⟨⟨_,f130_ok⟩,⟨⟨_,f77_ok⟩,⟨⟨_,f116_ok⟩,⟨⟨_,f217_ok⟩,⟨⟨_,f176_ok⟩,⟨⟨_,f123_ok⟩,⟨⟨_,f52_ok⟩,⟨⟨_,f104_ok⟩,⟨⟨_,f219_ok⟩,⟨⟨_,f175_ok⟩,⟨⟨_,f165_ok⟩,⟨⟨_,f224_ok⟩,⟨⟨_,f54_ok⟩,⟨⟨_,f105_ok⟩,⟨⟨_,f181_ok⟩,⟨⟨_,f56_ok⟩,⟨⟨_,f58_ok⟩,⟨⟨_,f129_ok⟩,⟨⟨_,f76_ok⟩,⟨⟨_,f307_ok⟩,⟨⟨_,f287_ok⟩,⟨⟨_,f256_ok⟩,⟨⟨_,f218_ok⟩,⟨⟨_,f169_ok⟩,⟨⟨_,f115_ok⟩,⟨⟨_,f114_ok⟩,⟨⟨_,f170_ok⟩,⟨⟨_,f172_ok⟩,⟨⟨_,f119_ok⟩,⟨⟨_,f171_ok⟩,⟨⟨_,f117_ok⟩,⟨⟨_,f63_ok⟩,⟨⟨_,f118_ok⟩,⟨⟨_,f64_ok⟩,⟨⟨_,f28_ok⟩,⟨⟨_,f65_ok⟩,⟨⟨_,f124_ok⟩,⟨⟨_,f311_ok⟩,⟨⟨_,f324_ok⟩,⟨⟨_,f323_ok⟩,⟨⟨_,f319_ok⟩,⟨⟨_,f310_ok⟩,⟨⟨_,f325_ok⟩,⟨⟨_,f322_ok⟩,⟨⟨_,f318_ok⟩,⟨⟨_,f308_ok⟩,⟨⟨_,f236_ok⟩,⟨⟨_,f288_ok⟩,⟨⟨_,f257_ok⟩,⟨⟨_,f221_ok⟩,⟨⟨_,f258_ok⟩,⟨⟨_,f289_ok⟩,⟨⟨_,f259_ok⟩,⟨⟨_,f222_ok⟩,⟨⟨_,f178_ok⟩,⟨⟨_,f126_ok⟩,⟨⟨_,f69_ok⟩,⟨⟨_,f30_ok⟩,⟨⟨_,f66_ok⟩,⟨⟨_,f173_ok⟩,⟨⟨_,f121_ok⟩,⟨⟨_,f67_ok⟩,⟨⟨_,f174_ok⟩,⟨⟨_,f122_ok⟩,⟨⟨_,f68_ok⟩,⟨⟨_,f29_ok⟩,⟨⟨_,f13_ok⟩,⟨⟨_,f34_ok⟩,⟨⟨_,f132_ok⟩,⟨⟨_,f226_ok⟩,⟨⟨_,f228_ok⟩,⟨⟨_,f184_ok⟩,⟨⟨_,f227_ok⟩,⟨⟨_,f183_ok⟩,⟨⟨_,f185_ok⟩,⟨⟨_,f260_ok⟩,⟨⟨_,f252_ok⟩,⟨⟨_,f229_ok⟩,⟨⟨_,f109_ok⟩,⟨⟨_,f246_ok⟩,⟨⟨_,f230_ok⟩,⟨⟨_,f186_ok⟩,⟨⟨_,f133_ok⟩,⟨⟨_,f187_ok⟩,⟨⟨_,f134_ok⟩,⟨⟨_,f78_ok⟩,⟨⟨_,f223_ok⟩,⟨⟨_,f179_ok⟩,⟨⟨_,f135_ok⟩,⟨⟨_,f136_ok⟩,⟨⟨_,f57_ok⟩,⟨⟨_,f51_ok⟩,⟨⟨_,f24_ok⟩,⟨⟨_,f8_ok⟩,⟨⟨_,f231_ok⟩,⟨⟨_,f192_ok⟩,⟨⟨_,f191_ok⟩,⟨⟨_,f190_ok⟩,⟨⟨_,f189_ok⟩,⟨⟨_,f188_ok⟩,⟨⟨_,f232_ok⟩,⟨⟨_,f193_ok⟩,⟨⟨_,f137_ok⟩,⟨⟨_,f80_ok⟩,⟨⟨_,f145_ok⟩,⟨⟨_,f85_ok⟩,⟨⟨_,f86_ok⟩,⟨⟨_,f39_ok⟩,⟨⟨_,f296_ok⟩,⟨⟨_,f272_ok⟩,⟨⟨_,f274_ok⟩,⟨⟨_,f297_ok⟩,⟨⟨_,f298_ok⟩,⟨⟨_,f273_ok⟩,⟨⟨_,f235_ok⟩,⟨⟨_,f197_ok⟩,⟨⟨_,f147_ok⟩,⟨⟨_,f149_ok⟩,⟨⟨_,f89_ok⟩,⟨⟨_,f128_ok⟩,⟨⟨_,f156_ok⟩,⟨⟨_,f155_ok⟩,⟨⟨_,f93_ok⟩,⟨⟨_,f42_ok⟩,trivial⟩⟩⟩⟩⟩⟩⟩⟩⟩⟩⟩⟩⟩⟩⟩⟩⟩⟩⟩⟩⟩⟩⟩⟩⟩⟩⟩⟩⟩⟩⟩⟩⟩⟩⟩⟩⟩⟩⟩⟩⟩⟩⟩⟩⟩⟩⟩⟩⟩⟩⟩⟩⟩⟩⟩⟩⟩⟩⟩⟩⟩⟩⟩⟩⟩⟩⟩⟩⟩⟩⟩⟩⟩⟩⟩⟩⟩⟩⟩⟩⟩⟩⟩⟩⟩⟩⟩⟩⟩⟩⟩⟩⟩⟩⟩⟩⟩⟩⟩⟩⟩⟩⟩⟩⟩⟩⟩⟩⟩⟩⟩⟩⟩⟩⟩⟩⟩⟩⟩⟩⟩⟩⟩⟩⟩⟩⟩⟩⟩⟩⟩⟩⟩⟩⟩⟩⟩⟩⟩⟩⟩⟩⟩⟩⟩⟩⟩⟩⟩⟩⟩⟩⟩⟩⟩⟩⟩⟩
end Go.Proofs.YtlkkebfjmbfgpaaGreatDoor.Ev

namespace Go.Proofs.YtlkkebfjmbfgpaaGreatDoor.Ev
open Go Go.RowKit
theorem keep_nil_below {w w':World} (h:Keep w.heap.size [] w w'):Below w.heap.size w w':=⟨h.os,h.tape,h.output,h.size,fun k hk=>h.block k hk (by simp)⟩
theorem Sat.int {i:FnInfo} {f:FuncId} {xs:List AV} {k:Int} {q:IntKind} {fr:Bool} (hs:Sat Tryz.prog i f xs ⟨[.int k],[],fr⟩) (hr:i.results=[.val (.int q)]) {S:Snap} {w:World} {vs:List Value}
    (ha:∀ p v,S p=some v→w.cell? p=some v) (hargs:ArgsRel S w i.params vs xs []) :
    Calls Tryz.prog f vs.toArray w fun e w'=>e=.returned (.int q k)∧Below w.heap.size w w':=by
  refine (hs S w vs [] ha hargs (by simp)).mono ?_
  rintro e w' ⟨S',v,rfl,_,_,_,hk,hres,_⟩
  rw [hr] at hres
  obtain ⟨x,hx,hv,_⟩:=hres
  cases hx
  obtain ⟨n,rfl,h2,_⟩:=hv.int
  cases h2
  exact ⟨rfl,keep_nil_below hk⟩
def headT:Ty:=.struct [.int .u32,.blob 32,.blob 32,.int .u64]
def cfgT:Ty:=.struct [headT,.blob 32,.int .i64,.int .i64,.int .i64,.int .i64,.int .i64,.int .i64]
theorem cfgT_ok:TyOk Tryz.prog cfgT 50:=types2_ok.ty 50 cfgT (by kernel_rfl)
def noSnap:Snap:=fun _=>none
theorem load50 {cs:List Value} (hl:cs.length=104) (b:Nat) (W:World) (hb:W.heap[b]?=some (.cells cs.toArray 50)):Sem.run Tryz.prog (loadVar 50 ⟨b,0,none⟩) W=.ok (.agg cs.toArray) W:=by
  have:=run_loadVar (w:=W) cfgT_ok ⟨b,0,none⟩ cs hl (fun j v hj=>by
    have e:(⟨b,0,none⟩:Addr).add j=⟨b,j,none⟩:=by
      unfold Addr.add
      split
      · rename_i h0; subst h0; rfl
      · simp
    rw [e]
    simp [World.cell?,hb,hj])
  exact this
theorem wp_loadVal {P:Program} {o:Oper} {a:Act} {w:World} {next:Act→World→Prop} {Q:Exit→Act→World→Prop} {t:TypeId} {x:Operand} {ptr v:Value} (hop:o.op=Op.load t x) (hx:a.eval x=ptr)
    (hr:Sem.run P (Instr.loadAt t ptr) w=.ok v w) (hn:next (a.put o.dst v) w):o.wp P a w next Q:=by
  unfold Oper.wp
  simp [execOp,hop,hx,hr,Result.andThen]
  exact hn
theorem exec_load {P:Program} {o:Oper} {a:Act} {w:World} {t:TypeId} {x:Operand} {ptr v:Value} (hop:o.op=Op.load t x) (hx:a.eval x=ptr) (hr:Sem.run P (Instr.loadAt t ptr) w=.ok v w):(execOp a.eval o).run P w=.ok (.value v) w:=by
  simp [execOp,hop,hx,hr,Result.andThen]
theorem exec_build {P:Program} {o:Oper} {a:Act} {w:World} {t:TypeId} {ps:Array (Nat × Operand)} {vs:Array (Nat × Value)} {v:Value} (hop:o.op=Op.build t ps) (hx0:ps.toList.map (fun (i,x)=>(i,a.eval x))=vs.toList) (hr:(Instr.build t vs).run P w=.ok v w):(execOp a.eval o).run P w=.ok (.value v) w:=by
  have hx:ps.map (fun (i,x)=>(i,a.eval x))=vs:=by
    apply Array.toList_inj.1
    rw [← hx0,Array.toList_map]
  subst hx
  simp only [execOp,hop]
  simp [hr,Result.andThen]
theorem loadI50 {cs:List Value} (hl:cs.length=104) (b:Nat) (W:World) (hb:W.heap[b]?=some (.cells cs.toArray 50)):Sem.run Tryz.prog (Instr.loadAt 50 (.pointer (some ⟨b,0,none⟩))) W=.ok (.agg cs.toArray) W:=by
  have:=load50 hl b W hb
  simp [Instr.loadAt,Instr.sureAddr,this]
def sessCells (cs:List Value) (q m:Nat):List Value:=cs++[.pointer (some ⟨q,0,none⟩),.map (some m)]
theorem fill91 {cs:List Value} (hl:cs.length=104) (q m:Nat) (zs:List Value) (hz:zs.length=106) :
    Instr.fill (#[(0,104),(104,1),(105,1)][·]?) zs.toArray [(0,.agg cs.toArray),(1,.pointer (some ⟨q,0,none⟩)),(2,.map (some m))]=some (sessCells cs q m).toArray:=by
  obtain ⟨a,b,hd⟩:∃ a b,zs.drop (0+104)=[a,b]:=by
    have h2:(zs.drop (0+104)).length=2:=by rw [List.length_drop]; omega
    match zs.drop (0+104),h2 with
    | [a,b],_=>exact ⟨a,b,rfl⟩
  rw [fill_one (off:=0) (size:=104) (ds:=cs) rfl rfl hl (by omega),hd,List.take_zero,List.nil_append]
  rw [fill_one (off:=104) (size:=1) (ds:=[.pointer (some ⟨q,0,none⟩)]) rfl rfl rfl (by rw [List.length_append,hl]; exact Nat.le_succ _)]
  rw [List.take_left' hl,show cs++[a,b]=(cs++[a])++[b] by simp,List.drop_left' (by rw [List.length_append,hl]; rfl)]
  rw [fill_one (off:=105) (size:=1) (ds:=[.map (some m)]) rfl rfl rfl (by rw [List.length_append,List.length_append,hl]; exact Nat.le_refl _)]
  rw [List.take_left' (by rw [List.length_append,hl]; rfl),List.drop_eq_nil_of_le (by rw [List.length_append,List.length_append,hl]; exact Nat.le_refl _)]
  simp [Instr.fill,sessCells]
theorem build91 {cs:List Value} (hl:cs.length=104) (q m:Nat) (W:World) :
    (Instr.build 91 #[(0,.agg cs.toArray),(1,.pointer (some ⟨q,0,none⟩)),(2,.map (some m))]).run Tryz.prog W=.ok (.agg (sessCells cs q m).toArray) W:=by
  obtain ⟨zs,hz,h⟩:∃ zs:List Value,zs.length=106∧Tryz.prog.built 91 [(0,.agg cs.toArray),(1,.pointer (some ⟨q,0,none⟩)),(2,.map (some m))]=Instr.fill (#[(0,104),(104,1),(105,1)][·]?) zs.toArray [(0,.agg cs.toArray),(1,.pointer (some ⟨q,0,none⟩)),(2,.map (some m))]:=by
    refine ⟨List.replicate 1 (.int .u32 0)++List.replicate 64 (.int .u8 0)++List.replicate 1 (.int .u64 0)++List.replicate 32 (.int .u8 0)++List.replicate 6 (.int .i64 0)++[.pointer none,.map none],rfl,by kernel_rfl⟩
  exact run_build W 91 _ _ (h.trans (fill91 hl q m zs hz))
end Go.Proofs.YtlkkebfjmbfgpaaGreatDoor.Ev

namespace Go.Proofs.YtlkkebfjmbfgpaaGreatDoor.Ev
open Go Go.RowKit Go.Maps Go.WideMaps
theorem Sat.one {i:FnInfo} {f:FuncId} {xs:List AV} {x:AV} {A:Ty} {fr:Bool} (hs:Sat Tryz.prog i f xs ⟨[x],[],fr⟩) (hr:i.results=[.val A]) {S:Snap} {w:World} {vs:List Value}
    (ha:∀ p v,S p=some v→w.cell? p=some v) (hargs:ArgsRel S w i.params vs xs []) :
    Calls Tryz.prog f vs.toArray w fun e w'=>∃ S' v,e=.returned v∧S.le S'∧(∀ p u,S' p=some u→S p=some u∨w.heap.size≤p.block)∧(∀ p u,S' p=some u→w'.cell? p=some u)∧VRep S' A v x∧Below w.heap.size w w':=by
  refine (hs S w vs [] ha hargs (by simp)).mono ?_
  rintro e w' ⟨S',v,rfl,h1,h2,h3,hk,hres,_⟩
  rw [hr] at hres
  obtain ⟨x',hx,hv,_⟩:=hres
  cases hx
  exact ⟨S',v,rfl,h1,h2,h3,hv,keep_nil_below hk⟩
def heldR (v:Value):Option (DataW Value × List MemPlace):=some (.held v,[])
theorem Tryz.under89:Tryz.prog.underlying 89=some (.map 9 101):=by kernel_rfl
theorem Tryz.zero101 (w:World):(zeroValue 101).run Tryz.prog w=.ok (.agg #[.slice none 0 0,.slice none 0 0,.slice none 0 0]) w:=by kernel_rfl
theorem load_cells {T:Ty} {t:TypeId} (hT:TyOk Tryz.prog T t) (ha:T.isAgg=true) {cs:List Value} (hl:cs.length=T.size) {b o:Nat} {W:World} (h:∀ (j:Nat) v,cs[j]?=some v→W.cell? ⟨b,o+j,none⟩=some v) :
    Sem.run Tryz.prog (Instr.loadAt t (.pointer (some ⟨b,o,none⟩))) W=.ok (.agg cs.toArray) W:=by
  have:Sem.run Tryz.prog (loadVar t ⟨b,o,none⟩) W=.ok (T.val cs) W:=run_loadVar (w:=W) hT ⟨b,o,none⟩ cs hl (fun j v hj=>by
    have e:(⟨b,o,none⟩:Addr).add j=⟨b,o+j,none⟩:=by
      unfold Addr.add
      split
      · rename_i h0; subst h0; rfl
      · rfl
    rw [e]
    exact h j v hj)
  have e2:T.val cs=.agg cs.toArray:=by simp [Ty.val,ha]
  simp [Instr.loadAt,Instr.sureAddr,this,e2]
theorem cfg_target {cs:List Value} {h t a1 a2 a3 a4 a5 a6:AV} (hrep:Rep noSnap cfgT cs (.agg [h,t,a1,a2,a3,a4,a5,a6])):Rep noSnap (.blob 32) ((cs.drop 66).take 32) t:=by
  obtain ⟨fs,hx,hl⟩:=hrep
  cases hx
  simp only [RepL] at hl
  obtain ⟨y,ys,e,_,_,h2⟩:=hl
  cases e
  obtain ⟨y,ys,e,_,h3,_⟩:=h2
  cases e
  exact h3
end Go.Proofs.YtlkkebfjmbfgpaaGreatDoor.Ev

namespace Go.Proofs
open Go Go.RowKit
set_option maxRecDepth 100000 in
theorem Tryz.bufNew (w:World):Calls Tryz.prog 31 #[] w fun e w'=>e=.returned (.pointer (some ⟨w.heap.size,0,none⟩))∧Lib.IsBuilder 139 5 w.heap.size w.heap.size [] w'∧Below w.heap.size w w':=by
  go_enter Tryz.func31,Tryz.ntmps31
  go_wp2
  refine bodyPost_ret (results_tmp rfl _ _ _) rfl ⟨rfl,?_,(Below.refl _ w).alloc (Nat.le_refl _) _⟩
  exact .inl ⟨Nat.le_refl _,.slice none 0 0,(Go.MapKept.heap_alloc w _).1,World.ownsRow_nil _ _ _ _,by simp [Value.ownBlock]⟩
set_option maxRecDepth 100000 in
set_option maxHeartbeats 1000000 in
theorem Tryz.bufRaw (B b g c:Nat) (ts:List ByteArray) (bs:List Value) (w:World) (h:Lib.IsBuilder 139 5 B b bs w) (hBw:B≤w.heap.size)
    (tid:TypeId) (cur:Array Value) (hg:w.heap[g]?=some (.cells cur tid (0,0))) (ht5:tid≠5) (hgb:g≠b) (hc:∀ (j:Nat) t,ts[j]?=some t→cur[j]?=some (.string t)) (hlen:∀ k,k≤ts.length→bs.length+(((ts.take k).flatMap Lib.strCells).length)≤100000) (hts:ts.length≤100000) :
    Calls Tryz.prog 75 #[.pointer (some ⟨b,0,none⟩),.slice (some ⟨g,0,none⟩) ts.length c] w fun e w'=>e=.returned (.tuple #[])∧Lib.IsBuilder 139 5 B b (bs++ts.flatMap Lib.strCells) w'∧Below B w w'∧Tryz.NotRow b w w':=by
  go_enter Tryz.func75,Tryz.ntmps75
  go_wp2
  go_loopw [4] (fun i wr=>∃ k:Nat,k≤ts.length∧i=.int .i64 k∧Lib.IsBuilder 139 5 B b (bs++(ts.take k).flatMap Lib.strCells) wr∧Below B w wr∧Tryz.NotRow b w wr)
    (fun i _=>ts.length-(intOf i).toNat)
  case atStart=>exact ⟨0,Nat.zero_le _,rfl,by simpa using h,Below.refl _ _,Tryz.NotRow.refl _ _⟩
  case round =>
    obtain ⟨k,hk,rfl,hI,hB,hN⟩:=hrel
    by_cases hlt:k < ts.length
    · obtain ⟨s,hs⟩:∃ s,ts[k]?=some s:=⟨_,List.getElem?_eq_getElem hlt⟩
      have hgl:g < w.heap.size:=(Array.getElem?_eq_some_iff.1 hg).1
      have hgr:wr.heap[g]?=some (.cells cur tid (0,0)):=(hN.2 g hgl hgb (fun cur' e=>by rw [hg] at e; simp only [Option.some.injEq,Obj.cells.injEq] at e; exact ht5 e.2.1)).trans hg
      have hck:wr.cell? ⟨g,k,none⟩=some (.string s):=by simp [World.cell?,hgr,hc k s hs]
      have htk:ts.take (k+1)=ts.take k++[s]:=by rw [List.take_add_one,hs]; rfl
      have hl1:=hlen (k+1) hlt
      rw [htk,List.flatMap_append,List.length_append] at hl1
      have hl2:(bs++(ts.take k).flatMap Lib.strCells).length+s.size≤140737488355328:=by
        simp only [List.length_append]
        simp only [List.flatMap_cons,List.flatMap_nil,List.append_nil,Lib.strCells_length] at hl1
        omega
      have hcall:=Tryz.writeString Tryz.built139 B b _ s wr.drew (h:=hI) hl2 (Nat.le_trans hBw hB.size) (by decide)
      have hk5:k≤100000:=by omega
      clear hc hl1 hl2 hlen
      go_wp2
      refine wp_region_held_drew (S:=fun W=>W.cell? ⟨g,k,none⟩=some (.string s)) (by kernel_rfl) hck fun hS=>?_
      refine wpAnyH_take (i:=0) (v:=.pointer (some ⟨b,0,none⟩)) (fuel:=7) rfl (by kernel_rfl) (by kernel_rfl) (by kernel_rfl) (fun _ _ _ h=>h) (.inl ⟨rfl,fun W hW=>by go_simp⟩) hS ?_
      refine wpAnyH_take (i:=1) (v:=.pointer (some ⟨b,0,none⟩)) (fuel:=6) rfl (by kernel_rfl) (by kernel_rfl) (by kernel_rfl) (fun _ _ _ h=>h) (.inl ⟨rfl,fun W hW=>by go_simp⟩) hS ?_
      refine wpAnyH_take (i:=2) (v:=.pointer (some ⟨b,0,none⟩)) (fuel:=5) rfl (by kernel_rfl) (by kernel_rfl) (by kernel_rfl) (fun _ _ _ h=>h) (.inl ⟨rfl,fun W hW=>by go_simp⟩) hS ?_
      refine wpAnyH_take (i:=3) (v:=.slice (some ⟨g,0,none⟩) ts.length c) (fuel:=4) rfl (by kernel_rfl) (by kernel_rfl) (by kernel_rfl) (fun _ _ _ h=>h) (.inl ⟨rfl,fun W hW=>by go_simp⟩) hS ?_
      refine wpAnyH_take (i:=4) (v:=.int .i64 k) (fuel:=3) rfl (by kernel_rfl) (by kernel_rfl) (by kernel_rfl) (fun _ _ _ h=>h) (.inl ⟨rfl,fun W hW=>by go_simp⟩) hS ?_
      refine wpAnyH_take (i:=5) (v:=.pointer (some ⟨g,k,none⟩)) (fuel:=2) rfl (by kernel_rfl) (by kernel_rfl) (by kernel_rfl) (fun _ _ _ h=>h) (.inl ⟨rfl,fun W hW=>by go_simp⟩) hS ?_
      refine wpAnyH_take (i:=6) (v:=.string s) (fuel:=1) rfl (by kernel_rfl) (by kernel_rfl) (by kernel_rfl) (fun _ _ _ h=>h) (.inl ⟨rfl,fun W hW=>by have h1:W.cell? ⟨g,k,none⟩=some (.string s):=hW; go_simp⟩) hS ?_
      refine wpAnyH_ready (rs:=[7]) (by kernel_rfl) (by simp) ?_
      refine AllReadyH.cons rfl (fun K hK=>?_) AllReadyH.nil
      rw [if_pos (by kernel_rfl)]
      go_simp
      refine hcall.mono ?_
      rintro e w2 ⟨rfl,hb2,hB2,hN2⟩
      have hck2:w2.cell? ⟨g,k,none⟩=some (.string s):=by
        have h2:w2.heap[g]?=some (.cells cur tid (0,0)):=(hN2.2 g (show g < wr.heap.size from (Array.getElem?_eq_some_iff.1 hgr).1) hgb (fun cur' e=>by rw [show wr.drew.heap[g]?=wr.heap[g]? from rfl,hgr] at e; simp only [Option.some.injEq,Obj.cells.injEq] at e; exact ht5 e.2.1)).trans hgr
        have h3:wr.heap[g]?=w2.heap[g]?:=hgr.trans h2.symm
        exact (World.cell?_of_block h3.symm).trans hck
      refine hK _ _ hck2 fun _=>?_
      clear hK K
      refine wpAnyH_done (by kernel_rfl) ?_ _
      go_simp
      go_wp2
      go_roundw
      case rel =>
        refine ⟨k+1,hlt,by go_num,?_,hB.trans ((below_drew _ _).trans hB2),hN.trans ((Tryz.NotRow.below (below_drew _ _)).trans hN2)⟩
        rw [htk,List.flatMap_append,← List.append_assoc]
        exact .inr (by simpa using hb2)
      case measure=>simp [intOf]; omega
    · obtain rfl:k=ts.length:=by omega
      go_wp2
      go_end0
      rw [List.take_length] at hI
      exact ⟨rfl,hI,hB,hN⟩
end Go.Proofs

namespace Go.Proofs
open Go Go.RowKit Go.Maps Go.WideMaps
set_option maxRecDepth 100000 in
theorem Tryz.stringsClone (s:ByteArray) (hs:s.size≤281474976710656) (w:World):Calls Tryz.prog 84 #[.string s] w fun e w'=>e=.returned (.string s)∧Below w.heap.size w w':=by
  go_enter Tryz.func84,Tryz.ntmps84
  go_wp2_with (go_at_call 144; refine (Tryz.stringslite_Clone s _ (by omega)).mono ?_; rintro e w' ⟨rfl,hb⟩)
  exact bodyPost_ret (results_tmp rfl _ _ _) rfl ⟨rfl,hb⟩
theorem Tryz.storeGrown {w w' w2:World} {q m n k:Nat} {room:Int} {D E:DataW Unit} (h:Tryz.StoreAt w q m room n D) (hb:Below w.drew.drew.heap.size w.drew.drew w') (hg:w'.grownBy w2 (some m)) (ho:w2.ownsMap Tryz.prog 9 (plainElem Tryz.prog 3) m k E) :
    Tryz.StoreAt w2 q m room k E∧w.grownBy w2 (some m):=by
  have hb0:w.grownBy w' (some m):=⟨hb.os,hb.tape,hb.output,hb.size,fun k hk _=>hb.block k hk⟩
  have hg0:=hb0.trans hg
  have hq:w2.heap[q]?=w.heap[q]?:=hg0.block q h.2.2.2.2 (fun e=>h.2.2.2.1 (by cases e; rfl))
  have hc:∀ i,w2.cell? ⟨q,i,none⟩=w.cell? ⟨q,i,none⟩:=fun i=>World.cell?_of_block hq
  exact ⟨⟨(hc 0).trans h.1,(hc 1).trans h.2.1,ho,h.2.2.2.1,Nat.lt_of_lt_of_le h.2.2.2.2 hg0.size⟩,hg0⟩
set_option maxRecDepth 100000 in
set_option maxHeartbeats 4000000 in
theorem Tryz.storeAdd {w:World} {q m n:Nat} {room:Int} {D:DataW Unit} (h:Tryz.StoreAt w q m room n D) (s:ByteArray) (hs2:s.size≤281474976710656) (hn2:n < 281474976710656) (hroom:(Maps.size D:Int) < room) (hnot:Maps.has D (.string s.data.toList)=false) :
    Calls Tryz.prog 38 #[.pointer (some ⟨q,0,none⟩),.string s] w fun e w'=>e=.returned (.tuple #[.bool true,.int .i64 0])∧Tryz.StoreAt w' q m room (n+1) (D.put (.string s.data.toList) (.lit (.int .i64 (Maps.size D))))∧w.grownBy w' (some m):=by
  have hs:s.size≤maxLen:=Nat.le_trans hs2 (by decide)
  have hn:n < maxLen:=Nat.lt_of_lt_of_le hn2 (by decide)
  have hSt:Hid (Tryz.StoreAt w q m room n D):=h
  obtain ⟨c0,c1,hm,hne,hlt⟩:=h
  obtain ⟨v,ps,hlook,_⟩:=hm.look_ok Tryz.keyed9 Tryz.under147 (Tryz.zero3 w) (plainElem_int Tryz.under3 (by decide)) (keyOf_string_mk Tryz.under9 hs)
  rw [hnot] at hlook
  have hlen:=hm.len Tryz.under147
  go_enter Tryz.func38,Tryz.ntmps38
  have hlen':=hm.drew.len Tryz.under147
  have hnil:=Tryz.mapNil147 m
  have hm0:=hm.lt
  have hge:¬ room≤(Maps.size D:Int):=by omega
  go_wp2
  go_region
  go_wp2
  have hsz:=hm.size_le
  have hwf:(Lit.int .i64 (Maps.size D:Int)).wf=true:=by
    have h1:IntKind.min .i64=-9223372036854775808:=by decide
    have h2:IntKind.max .i64=9223372036854775807:=by decide
    simp only [Lit.wf,h1,h2,Bool.and_eq_true,decide_eq_true_eq]
    omega
  go_region_with (
    go_at_call 84
    refine (Tryz.stringsClone s hs2 _).mono ?_
    rintro e w' ⟨rfl,hb⟩
    have c0':w'.cell? ⟨q,0,none⟩=some (.int .i64 room):=(hb.cell hlt).trans c0
    have c1':w'.cell? ⟨q,1,none⟩=some (.map (some m)):=(hb.cell hlt).trans c1
    have hm':w'.ownsMap Tryz.prog 9 (plainElem Tryz.prog 3) m n D:=by
      obtain ⟨es,ck,h1,h2⟩:=hm
      exact ⟨es,ck,(hb.block m hm0).trans h1,h2⟩
    have hlen2:=hm'.len Tryz.under147
    obtain ⟨w2,hrun,hown2,hg2⟩:=hm'.update Tryz.keyed9 Tryz.under147 hn (keyOf_string_mk Tryz.under9 hs) (plainElem_int (P:=Tryz.prog) Tryz.under3 (a:=(Maps.size D:Int)) hwf))
  all_goals
    go_wp2
    exact bodyPost_ret (results_tmp2 rfl _ _ _) rfl ⟨rfl,Tryz.storeGrown hSt.out hb hg2 hown2⟩
end Go.Proofs

namespace Go.Proofs.YtlkkebfjmbfgpaaGreatDoor.Ev
open Go Go.RowKit Go.Maps Go.WideMaps
set_option maxRecDepth 100000 in
set_option maxHeartbeats 4000000 in
theorem sessionNew {cs:List Value} {c:AV} (hrep:Rep noSnap cfgT cs c) (hchk:Sat Tryz.prog f34_info 34 [c] ⟨[.int 0],[],false⟩) {room:Int} (hroom:cs[103]?=some (.int .i64 room)) (w:World) :
    Calls Tryz.prog 15 #[.agg cs.toArray] w fun e w'=>∃ p q m ms,e=.returned (.pointer (some ⟨p,0,none⟩))∧w'.heap[p]?=some (.cells (sessCells cs q ms).toArray 91)∧Tryz.StoreAt w' q m room 0 (.map [])∧w'.heap[ms]?=some (.map #[] 0) ∧
      p≠q∧p≠m∧p≠ms∧q≠ms∧m≠ms∧w.heap.size≤p∧w.heap.size≤q∧w.heap.size≤m∧w.heap.size≤ms∧Below w.heap.size w w':=by
  have hl:cs.length=104:=Rep.len _ _ _ hrep
  have h0:(w.alloc (Obj.cells cs.toArray 50)).heap[w.heap.size]?=some (.cells cs.toArray 50):=(Go.MapKept.heap_alloc w _).1
  have hck:∀ W:World,Calls Tryz.prog 34 #[.agg cs.toArray] W fun e w'=>e=.returned (.int .i64 0)∧Below W.heap.size W w':=fun W =>
    hchk.int rfl (S:=noSnap) (fun _ _ h=>by cases h) ⟨_,_,_,_,rfl,rfl,⟨cs,rfl,hrep⟩,rfl,rfl,rfl⟩
  clear hchk hrep
  go_enter Tryz.func15,Tryz.ntmps15
  go_wp2
  refine wp_loadVal rfl rfl (loadI50 hl _ _ h0) ?_
  go_wp2_with (go_at_call 34; refine (hck _).mono ?_; rintro e w' ⟨rfl,hb⟩)
  have hq:(w.alloc (Obj.cells cs.toArray 50)).heap.size=w.heap.size+1:=by simp
  have h1:w'.heap[w.heap.size]?=some (.cells cs.toArray 50):=(hb.block _ (by omega)).trans h0
  have h1d:w'.drew.heap[w.heap.size]?=some (.cells cs.toArray 50):=h1
  have c1:w'.cell? ⟨w.heap.size,103,none⟩=some (.int .i64 room):=by simp [World.cell?,h1,hroom]
  have hmm:=@run_makeMap Tryz.prog
  refine wp_region_held_drew (S:=fun W=>W.heap[w.heap.size]?=some (.cells cs.toArray 50)) (by kernel_rfl) h1 fun hS=>?_
  refine wpAnyH_take (i:=0) (v:=.agg cs.toArray) (fuel:=7) rfl (by kernel_rfl) (by kernel_rfl) (by kernel_rfl) (fun _ _ _ h=>h) (.inl ⟨rfl,fun W hW=>?_⟩) hS ?_
  · exact exec_load rfl rfl (loadI50 hl _ W hW)
  refine wpAnyH_take (i:=1) (v:=.pointer (some ⟨w.heap.size,103,none⟩)) (fuel:=6) rfl (by kernel_rfl) (by kernel_rfl) (by kernel_rfl) (fun _ _ _ h=>h) (.inl ⟨by rfl,fun W _=>?_⟩) hS ?_
  · go_simp
  refine wpAnyH_take (i:=2) (v:=.int .i64 room) (fuel:=5) rfl (by kernel_rfl) (by kernel_rfl) (by kernel_rfl) (fun _ _ _ h=>h) (.inl ⟨by rfl,fun W hW=>?_⟩) hS ?_
  · have c2:W.cell? ⟨w.heap.size,103,none⟩=some (.int .i64 room):=by
      have hW:W.heap[w.heap.size]?=some (.cells cs.toArray 50):=hW
      simp [World.cell?,hW,hroom]
    go_simp
  refine wpAnyH_ready (rs:=[3,4]) (by kernel_rfl) (by simp) ?_
  refine AllReadyH.cons rfl (fun K hK=>?_) (AllReadyH.cons rfl (fun K hK=>?_) AllReadyH.nil)
  · rw [if_pos (by kernel_rfl)]
    go_simp
    refine (Tryz.storeNew room _).mono ?_
    rintro e w2 ⟨rfl,hst,hsz2,hb2⟩
    have hsz3:w'.drew.heap.size=w'.heap.size:=rfl
    have hlt:w.heap.size < w'.heap.size:=by have:=hb.size; omega
    refine hK.out _ _ ((hb2.block _ hlt).trans h1d) fun hS2=>?_
    clear hK K
    refine wpAnyH_ready (rs:=[4]) (by kernel_rfl) (by simp) ?_
    refine AllReadyH.cons rfl (fun K hK=>?_) AllReadyH.nil
    rw [if_pos (by kernel_rfl)]
    go_simp
    have hlt2:w.heap.size < w2.heap.size:=by omega
    refine hK.out _ _ ((Go.MapKept.heap_alloc w2 _).2 _ hlt2 |>.trans hS2) fun hS3=>?_
    clear hK K
    refine wpAnyH_take (i:=5) (v:=.agg (sessCells cs (w'.heap.size+1) (w'.heap.size+2)).toArray) (fuel:=2) rfl (by kernel_rfl) (by kernel_rfl) (by kernel_rfl) (fun _ _ _ h=>h) (.inl ⟨by rfl,fun W hW=>?_⟩) hS3 ?_
    · exact exec_build rfl rfl (build91 hl (w'.heap.size+1) (w'.heap.size+2) W)
    refine wpAnyH_ready (rs:=[6]) (by kernel_rfl) (by simp) ?_
    refine AllReadyH.cons rfl (fun K hK=>?_) AllReadyH.nil
    rw [if_pos (by kernel_rfl)]
    go_simp
    have hsz4:(w2.alloc (Obj.map #[] 0)).heap.size=w'.heap.size+3:=by simp; omega
    have hS4:((w2.alloc (Obj.map #[] 0)).alloc (Obj.cells (sessCells cs (w'.heap.size+1) (w'.heap.size+2)).toArray 91)).heap[w.heap.size]?=some (.cells cs.toArray 50):=((Go.MapKept.heap_alloc _ _).2 _ (by omega)).trans hS3
    refine hK.out _ _ hS4 fun _=>?_
    clear hK K
    refine wpAnyH_take (i:=7) (v:=.pointer (some ⟨w'.heap.size+2+1,0,none⟩)) (fuel:=0) rfl (by kernel_rfl) (by kernel_rfl) (by kernel_rfl) (fun _ _ _ h=>h) (.inl ⟨by rfl,fun W _=>?_⟩) hS4 ?_
    · go_simp
    refine wpAnyH_done (by kernel_rfl) ?_ _
    go_wp2
    refine bodyPost_ret (results_tmp rfl _ _ _) rfl ⟨w'.heap.size+3,w'.heap.size+1,w'.heap.size,w'.heap.size+2,rfl,?_,?_,?_,by omega,by omega,by omega,by omega,by omega,by omega,by omega,by omega,by omega,?_⟩
    · rw [← hsz4]; exact (Go.MapKept.heap_alloc _ _).1
    · have hh:∀ k,k < w'.heap.size+2→((w2.alloc (Obj.map #[] 0)).alloc (Obj.cells (sessCells cs (w'.heap.size+1) (w'.heap.size+2)).toArray 91)).heap[k]?=w2.heap[k]?:=fun k hk =>
        ((Go.MapKept.heap_alloc _ _).2 _ (by omega)).trans ((Go.MapKept.heap_alloc _ _).2 _ (by omega))
      exact hst.kept (hh _ (by omega)) (hh _ (by omega)) (by simp; omega)
    · exact ((Go.MapKept.heap_alloc _ _).2 _ (by omega)).trans (by have:=(Go.MapKept.heap_alloc w2 (Obj.map #[] 0)).1; rw [hsz2] at this; exact this)
    · have hb':Below w.heap.size w w':=by
        refine (((Below.refl w.heap.size w).alloc (Nat.le_refl _) _)).trans ⟨hb.os,hb.tape,hb.output,hb.size,fun k hk=>hb.block k (by omega)⟩
      refine hb'.trans (Below.trans (b:=w2) ⟨hb2.os,hb2.tape,hb2.output,hb2.size,fun k hk=>hb2.block k (by omega)⟩ ?_)
      exact ((Below.refl w.heap.size w2).alloc (by omega) _).alloc (by omega) _
  · rw [if_pos (by kernel_rfl)]
    go_simp
    have hsz3:w'.drew.heap.size=w'.heap.size:=rfl
    have hlt:w.heap.size < w'.heap.size:=by have:=hb.size; omega
    refine hK.out _ _ (((Go.MapKept.heap_alloc _ _).2 _ hlt).trans h1d) fun hS2=>?_
    clear hK K
    refine wpAnyH_ready (rs:=[3]) (by kernel_rfl) (by simp) ?_
    refine AllReadyH.cons rfl (fun K hK=>?_) AllReadyH.nil
    rw [if_pos (by kernel_rfl)]
    go_simp
    refine (Tryz.storeNew room _).mono ?_
    rintro e w2 ⟨rfl,hst,hsz2,hb2⟩
    have hsz0:(w'.alloc (Obj.map #[] 0)).heap.size=w'.heap.size+1:=by simp
    have hsz1:(w'.alloc (Obj.map #[] 0)).drew.heap.size=w'.heap.size+1:=hsz0
    rw [hsz1] at hst hsz2
    refine hK.out _ _ ((hb2.block _ (by omega)).trans hS2) fun hS3=>?_
    clear hK K
    refine wpAnyH_take (i:=5) (v:=.agg (sessCells cs (w'.heap.size+1+1) w'.heap.size).toArray) (fuel:=2) rfl (by kernel_rfl) (by kernel_rfl) (by kernel_rfl) (fun _ _ _ h=>h) (.inl ⟨by rfl,fun W hW=>?_⟩) hS3 ?_
    · refine exec_build rfl ?_ (build91 hl (w'.heap.size+1+1) w'.heap.size W)
      simp only [hsz1]
      rfl
    refine wpAnyH_ready (rs:=[6]) (by kernel_rfl) (by simp) ?_
    refine AllReadyH.cons rfl (fun K hK=>?_) AllReadyH.nil
    rw [if_pos (by kernel_rfl)]
    go_simp
    have hw2:w2.heap.size=w'.heap.size+1+2:=hsz2
    have hS4:(w2.alloc (Obj.cells (sessCells cs (w'.heap.size+1+1) w'.heap.size).toArray 91)).heap[w.heap.size]?=some (.cells cs.toArray 50):=((Go.MapKept.heap_alloc _ _).2 _ (by omega)).trans hS3
    refine hK.out _ _ hS4 fun _=>?_
    clear hK K
    refine wpAnyH_take (i:=7) (v:=.pointer (some ⟨w'.heap.size+1+2,0,none⟩)) (fuel:=0) rfl (by kernel_rfl) (by kernel_rfl) (by kernel_rfl) (fun _ _ _ h=>h) (.inl ⟨by rfl,fun W _=>?_⟩) hS4 ?_
    · go_simp
    refine wpAnyH_done (by kernel_rfl) ?_ _
    go_wp2
    have hh:∀ k,k < w'.heap.size+1+2→(w2.alloc (Obj.cells (sessCells cs (w'.heap.size+1+1) w'.heap.size).toArray 91)).heap[k]?=w2.heap[k]?:=fun k hk=>(Go.MapKept.heap_alloc _ _).2 _ (by omega)
    refine bodyPost_ret (results_tmp rfl _ _ _) rfl ⟨w'.heap.size+1+2,w'.heap.size+1+1,w'.heap.size+1,w'.heap.size,rfl,?_,?_,?_,by omega,by omega,by omega,by omega,by omega,by omega,by omega,by omega,by omega,?_⟩
    · rw [← hw2]; exact (Go.MapKept.heap_alloc _ _).1
    · exact hst.kept (hh _ (by omega)) (hh _ (by omega)) (by simp)
    · refine (hh _ (by omega)).trans ((hb2.block _ (by omega)).trans ?_)
      exact (Go.MapKept.heap_alloc w' (Obj.map #[] 0)).1
    · have hb':Below w.heap.size w w':=by
        refine (((Below.refl w.heap.size w).alloc (Nat.le_refl _) _)).trans ⟨hb.os,hb.tape,hb.output,hb.size,fun k hk=>hb.block k (by omega)⟩
      have hb3:Below w.heap.size w' (w'.alloc (Obj.map #[] 0)):=(Below.refl w.heap.size w').alloc (by omega) _
      refine hb'.trans (hb3.trans (Below.trans (b:=w2) ⟨hb2.os,hb2.tape,hb2.output,hb2.size,fun k hk=>hb2.block k (by omega)⟩ ?_))
      exact (Below.refl w.heap.size w2).alloc (by omega) _
end Go.Proofs.YtlkkebfjmbfgpaaGreatDoor.Ev

namespace Go.Proofs.YtlkkebfjmbfgpaaGreatDoor.Ev
open Go Go.RowKit Go.Maps Go.WideMaps
theorem Sat.pair {i:FnInfo} {f:FuncId} {xs:List AV} {x:AV} {A:Ty} {k:Int} {q:IntKind} {fr:Bool} (hs:Sat Tryz.prog i f xs ⟨[x,.int k],[],fr⟩) (hr:i.results=[.val A,.val (.int q)]) {S:Snap} {w:World} {vs:List Value}
    (ha:∀ p v,S p=some v→w.cell? p=some v) (hargs:ArgsRel S w i.params vs xs []) :
    Calls Tryz.prog f vs.toArray w fun e w'=>∃ S' v,e=.returned (.tuple #[v,.int q k])∧S.le S'∧(∀ p u,S' p=some u→S p=some u∨w.heap.size≤p.block)∧(∀ p u,S' p=some u→w'.cell? p=some u)∧VRep S' A v x∧Below w.heap.size w w':=by
  refine (hs S w vs [] ha hargs (by simp)).mono ?_
  rintro e w' ⟨S',v,rfl,h1,h2,h3,hk,hres,_⟩
  rw [hr] at hres
  obtain ⟨us,rfl,u1,us1,x1,xs1,rfl,hx1,hv1,u2,us2,x2,xs2,rfl,hx2,hv2,rfl,rfl⟩:=hres
  cases hx1
  cases hx2
  obtain ⟨n,rfl,h5,_⟩:=hv2.int
  cases h5
  exact ⟨S',u1,rfl,h1,h2,h3,hv1,keep_nil_below hk⟩
set_option maxRecDepth 100000 in
theorem refuse_none (s:ByteArray) (w:World):Calls Tryz.prog 79 #[.string s,.int .i64 0] w fun e w'=>e=.returned .nilIface∧w'=w:=by
  go_enter Tryz.func79,Tryz.ntmps79
  go_wp2
  exact bodyPost_ret (results_tmp rfl _ _ _) rfl ⟨rfl,rfl⟩
theorem sess_cell {cs:List Value} {p q ms:Nat} {w:World} (h:w.heap[p]?=some (.cells (sessCells cs q ms).toArray 91)) {i:Nat} {v:Value} (hi:cs[i]?=some v):w.cell? ⟨p,i,none⟩=some v:=by
  have h1:(sessCells cs q ms)[i]?=some v:=by
    unfold sessCells
    rw [List.getElem?_append_left (List.getElem?_eq_some_iff.1 hi).1]
    exact hi
  simp [World.cell?,h,h1]
theorem loadS50 {cs:List Value} (hl:cs.length=104) {p q ms:Nat} {W:World} (hb:W.heap[p]?=some (.cells (sessCells cs q ms).toArray 91)):Sem.run Tryz.prog (Instr.loadAt 50 (.pointer (some ⟨p,0,none⟩))) W=.ok (.agg cs.toArray) W:=by
  have:Sem.run Tryz.prog (loadVar 50 ⟨p,0,none⟩) W=.ok (.agg cs.toArray) W:=run_loadVar (w:=W) cfgT_ok ⟨p,0,none⟩ cs hl (fun j v hj=>by
    have e:(⟨p,0,none⟩:Addr).add j=⟨p,j,none⟩:=by
      unfold Addr.add
      split
      · rename_i h0; subst h0; rfl
      · simp
    rw [e]
    exact sess_cell hb hj)
  simp [Instr.loadAt,Instr.sureAddr,this]
set_option maxRecDepth 100000 in
set_option maxHeartbeats 4000000 in
theorem read_ok {cs:List Value} {c:AV} (hrep:Rep noSnap cfgT cs c) {steps:List AV} {bytes:List UInt8} {A0:Ty} {fr:Bool} (hA:f78_info.results=[.val (.slice A0),.val (.int .i64)]) (hP:f78_info.params=[.val .str])
    (hdec:Sat Tryz.prog f78_info 78 [.str bytes] ⟨[.slice steps,.int 0],[],fr⟩) (hbl:bytes.length≤maxLen)
    (hval:∀ (S:Snap) (W:World) (v:Value),(∀ p u,S p=some u→W.cell? p=some u)→VRep S (.slice A0) v (.slice steps)→Calls Tryz.prog 80 #[.agg cs.toArray,v] W fun e w'=>e=.returned (.agg #[.int .i64 0,.int .i64 0])∧Below W.heap.size W w')
    {lim:Int} (hlim:cs[102]?=some (.int .i64 lim)) (hle:(steps.length:Int)≤lim) {w:World} {p q ms:Nat} (h0:w.heap[p]?=some (.cells (sessCells cs q ms).toArray 91)) :
    Calls Tryz.prog 36 #[.pointer (some ⟨p,0,none⟩),.string ⟨bytes.toArray⟩] w fun e w'=>∃ S' v,e=.returned (.tuple #[v,.nilIface])∧VRep S' (.slice A0) v (.slice steps)∧(∀ p u,S' p=some u→w.heap.size≤p.block)∧(∀ p u,S' p=some u→w'.cell? p=some u)∧Below w.heap.size w w':=by
  have hl:cs.length=104:=Rep.len _ _ _ hrep
  have hd:∀ W:World,Calls Tryz.prog 78 #[.string ⟨bytes.toArray⟩] W fun e w'=>∃ S' v,e=.returned (.tuple #[v,.int .i64 0])∧noSnap.le S'∧(∀ p u,S' p=some u→noSnap p=some u∨W.heap.size≤p.block)∧(∀ p u,S' p=some u→w'.cell? p=some u)∧VRep S' (.slice A0) v (.slice steps)∧Below W.heap.size W w':=fun W =>
    hdec.pair hA (S:=noSnap) (fun _ _ h=>by cases h) (by rw [hP]; exact ⟨_,_,_,_,rfl,rfl,⟨[.string ⟨bytes.toArray⟩],(val_one rfl _).symm,bytes,rfl,rfl,hbl⟩,rfl,rfl,rfl⟩)
  clear hdec
  have hfd:∀ W:World,Sem.run Tryz.prog (Instr.field 127 (.agg #[.int .i64 0,.int .i64 0]) 0) W=.ok (.int .i64 0) W:=fun W=>by kernel_rfl
  go_enter Tryz.func36,Tryz.ntmps36
  go_wp2_with (first | (go_at_call 79; refine (refuse_none _ _).mono ?_; rintro e w2 ⟨rfl,rfl⟩) | go_at_call 78; refine (hd _).mono ?_; rintro e w' ⟨S',v,rfl,_,hn,ha,hv,hb⟩; obtain ⟨a,len,cap,es,rfl,he,hlen,hcap,hmax,_⟩:=hv.slice; have c102:=(hb.cell (World.block_lt_of_cell? w _ (sess_cell h0 hlim))).trans (sess_cell h0 hlim); cases he)
  have hp:p < w.heap.size:=World.block_lt_of_cell? w _ (sess_cell h0 hlim)
  refine wp_loadVal rfl rfl (loadS50 hl ((hb.block p hp).trans h0)) ?_
  go_wp2_with (first | (go_at_call 79; refine (refuse_none _ _).mono ?_; rintro e w4 ⟨rfl,rfl⟩) | go_at_call 80; refine (hval S' _ _ ha hv).mono ?_; rintro e w3 ⟨rfl,hb3⟩)
  refine bodyPost_ret (results_tmp2 rfl _ _ _) rfl ⟨S',_,rfl,hv,fun p u h=>?_,fun p u h=>?_,?_⟩
  · rcases hn p u h with h1 | h1
    · cases h1
    · exact h1
  · exact (hb3.cell (World.block_lt_of_cell? _ _ (ha p u h))).trans (ha p u h)
  · exact hb.trans ⟨hb3.os,hb3.tape,hb3.output,hb3.size,fun k hk=>hb3.block k (Nat.lt_of_lt_of_le hk hb.size)⟩
end Go.Proofs.YtlkkebfjmbfgpaaGreatDoor.Ev

namespace Go.Proofs.YtlkkebfjmbfgpaaGreatDoor.Ev
open Go Go.RowKit Go.Maps Go.WideMaps
set_option maxRecDepth 100000 in
theorem code_nil (w:World):Calls Tryz.prog 37 #[.nilIface] w fun e w'=>e=.returned (.int .i64 0)∧Below w.heap.size w w':=by
  go_enter Tryz.func37,Tryz.ntmps37
  go_wp2
  exact bodyPost_ret (results_tmp rfl _ _ _) rfl ⟨rfl,(Below.refl _ w).alloc (Nat.le_refl _) _⟩
end Go.Proofs.YtlkkebfjmbfgpaaGreatDoor.Ev

namespace Go.Proofs.YtlkkebfjmbfgpaaGreatDoor.Ev
open Go Go.RowKit Go.Maps Go.WideMaps
def headStep:Ty:=.struct [headT,.struct [.int .i64,.int .i64,.slice (.blob 32)]]
def sideT:Ty:=.struct [.slice (.blob 32),.slice (.int .i64)]
structure SessAt (w:World) (cs:List Value) (p q m ms n n2:Nat) (room:Int) (D:DataW Unit) (E:DataW Value):Prop where
  sess:w.heap[p]?=some (.cells (sessCells cs q ms).toArray 91)
  store:Tryz.StoreAt w q m room n D
  owns:w.ownsMap Tryz.prog 9 heldR ms n2 E
  pq:p≠q
  pm:p≠m
  pms:p≠ms
  qms:q≠ms
  mms:m≠ms
theorem SessAt.kept {w w':World} {cs:List Value} {p q m ms n n2:Nat} {room:Int} {D:DataW Unit} {E:DataW Value} (h:SessAt w cs p q m ms n n2 room D E) (hb:Below w.heap.size w w'):SessAt w' cs p q m ms n n2 room D E:=by
  have hp:p < w.heap.size:=(Array.getElem?_eq_some_iff.1 h.sess).1
  exact ⟨(hb.block p hp).trans h.sess,h.store.kept (hb.block q h.store.2.2.2.2) (hb.block m h.store.2.2.1.lt) hb.size,h.owns.kept (grownBy_of_below hb none) (by simp),h.pq,h.pm,h.pms,h.qms,h.mms⟩
theorem sess_tail {cs:List Value} (hl:cs.length=104) {p q ms:Nat} {w:World} (h:w.heap[p]?=some (.cells (sessCells cs q ms).toArray 91)):w.cell? ⟨p,104,none⟩=some (.pointer (some ⟨q,0,none⟩))∧w.cell? ⟨p,105,none⟩=some (.map (some ms)):=by
  have h1:(sessCells cs q ms)[104]?=some (.pointer (some ⟨q,0,none⟩)):=by
    unfold sessCells; rw [List.getElem?_append_right (by omega),hl]; rfl
  have h2:(sessCells cs q ms)[105]?=some (.map (some ms)):=by
    unfold sessCells; rw [List.getElem?_append_right (by omega),hl]; rfl
  exact ⟨by simp [World.cell?,h,h1],by simp [World.cell?,h,h2]⟩
theorem load_tgt {cs:List Value} (hl:cs.length=104) {p q ms:Nat} {W:World} (hb:W.heap[p]?=some (.cells (sessCells cs q ms).toArray 91)):Sem.run Tryz.prog (Instr.loadAt 32 (.pointer (some ⟨p,66,none⟩))) W=.ok (.agg ((cs.drop 66).take 32).toArray) W:=by
  refine load_cells (T:=.blob 32) (types2_ok.ty 32 (.blob 32) (by kernel_rfl)) rfl (by simp [Ty.size,hl]) (fun j v hj=>sess_cell hb ?_)
  rw [List.getElem?_take] at hj
  split at hj
  · rw [List.getElem?_drop] at hj; exact hj
  · cases hj
theorem build101 (a1 a2 a3:Option Addr) (l1 c1 l2 c2 l3 c3:Nat) (W:World):(Instr.build 101 #[(0,.slice a1 l1 c1),(1,.agg #[.slice a2 l2 c2,.slice a3 l3 c3])]).run Tryz.prog W=.ok (.agg #[.slice a1 l1 c1,.slice a2 l2 c2,.slice a3 l3 c3]) W:=by kernel_rfl
theorem side_shape {S:Snap} {u:AV} {v:Value} (h:VRep S sideT v u):∃ a2 l2 c2 a3 l3 c3,v=.agg #[.slice a2 l2 c2,.slice a3 l3 c3]:=by
  obtain ⟨cs,rfl,xs,_,hl⟩:=h
  simp only [RepL,Ty.size] at hl
  obtain ⟨y,ys,_,_,h1,h2⟩:=hl
  obtain ⟨y2,ys2,_,_,h3,h4,_⟩:=h2
  simp only [Rep] at h1 h3
  obtain ⟨a2,l2,c2,_,e2,_⟩:=h1
  obtain ⟨a3,l3,c3,_,e3,_⟩:=h3
  refine ⟨a2,l2,c2,a3,l3,c3,?_⟩
  have:cs=[.slice a2 l2 c2,.slice a3 l3 c3]:=by
    match cs,e2,e3,h4 with
    | [x,z],e2,e3,_=>simp at e2 e3; rw [e2,e3]
  rw [this]; rfl
set_option maxRecDepth 100000 in
set_option maxHeartbeats 1000000 in
theorem submit_new {cs:List Value} (hl:cs.length=104) {w:World} {p q m ms n n2:Nat} {room:Int} {D:DataW Unit} {E:DataW Value} (hs:SessAt w cs p q m ms n n2 room D E)
    {bytes:List UInt8} {steps:List AV} {target:List UInt8} {side:AV} {stepT:Ty}
    (hread:Calls Tryz.prog 36 #[.pointer (some ⟨p,0,none⟩),.string ⟨bytes.toArray⟩] w fun e w'=>∃ S' v,e=.returned (.tuple #[v,.nilIface])∧VRep S' (.slice stepT) v (.slice steps)∧(∀ p u,S' p=some u→w.heap.size≤p.block)∧(∀ p u,S' p=some u→w'.cell? p=some u)∧Below w.heap.size w w')
    (htgt:Rep noSnap (.blob 32) ((cs.drop 66).take 32) (.blob target))
    (hof:∀ (S:Snap) (W:World) (v:Value),(∀ p u,S p=some u→W.cell? p=some u)→VRep S (.slice stepT) v (.slice steps)→Calls Tryz.prog 39 #[.agg ((cs.drop 66).take 32).toArray,v] W fun e w'=>∃ S' u,e=.returned u∧S.le S'∧(∀ p u,S' p=some u→S p=some u∨W.heap.size≤p.block)∧(∀ p u,S' p=some u→w'.cell? p=some u)∧VRep S' sideT u side∧Below W.heap.size W w')
    (hbl:bytes.length≤281474976710656) (hn:n < 281474976710656) (hn2:n2 < maxLen) (hroom:(Maps.size D:Int) < room) (hnot:Maps.has D (.string bytes)=false) :
    Calls Tryz.prog 16 #[.pointer (some ⟨p,0,none⟩),.string ⟨bytes.toArray⟩] w fun e w'=>e=.returned (.tuple #[.bool true,.int .i64 0])∧∃ S' v a b,
      SessAt w' cs p q m ms (n+1) (n2+1) room (D.put (.string bytes) (.lit (.int .i64 (Maps.size D)))) (E.put (.string bytes) (.held (.agg #[v,a,b]))) ∧
      VRep S' (.slice stepT) v (.slice steps)∧VRep S' sideT (.agg #[a,b]) side∧(∀ p u,S' p=some u→w.heap.size≤p.block)∧(∀ p u,S' p=some u→w'.cell? p=some u)∧Keep w.heap.size [m,ms] w w':=by
  have hbl2:bytes.length≤maxLen:=Nat.le_trans hbl (by decide)
  have Hof:Hid _:=hof
  have Htg:Hid _:=htgt
  clear hof htgt
  go_enter Tryz.func16,Tryz.ntmps16
  have Hs:Hid _:=hs
  have Hl:Hid _:=hl
  have Hrest:Hid _:=And.intro hroom (And.intro hnot (And.intro hn (And.intro hn2 hbl)))
  clear hs hl hroom hnot hn hn2 hbl
  go_wp2_with (first
    | (go_at_call 36; refine hread.mono ?_; rintro e w1 ⟨S1,v,rfl,hv,hS1,ha1,hb1⟩
       have Hs1:Hid _:=Hs.out.kept hb1
       have ct:=(sess_tail Hl.out Hs1.out.sess).1
       have hadd:=Tryz.storeAdd Hs1.out.store ⟨bytes.toArray⟩ (show bytes.length≤_ from Hrest.out.2.2.2.2) Hrest.out.2.2.1 Hrest.out.1 (show Maps.has D (.string bytes)=false from Hrest.out.2.1))
    | (go_at_call 38; refine hadd.mono ?_; rintro e w2 ⟨rfl,hst2,hg2⟩))
  obtain ⟨va,vl,vc,rfl⟩:∃ va vl vc,v=.slice va vl vc:=by obtain ⟨va,vl,vc,_,h,_⟩:=hv.slice; exact ⟨va,vl,vc,h⟩
  have hsess2:w2.heap[p]?=some (.cells (sessCells cs q ms).toArray 91):=(hg2.block p (Array.getElem?_eq_some_iff.1 Hs1.out.sess).1 (fun e=>Hs1.out.pm (by cases e; rfl))).trans Hs1.out.sess
  refine wp_region_held_drew (S:=fun W=>W.heap[p]?=some (.cells (sessCells cs q ms).toArray 91)) (by kernel_rfl) hsess2 fun hS=>?_
  refine wpAnyH_take (i:=0) (v:=.pointer (some ⟨p,0,none⟩)) (fuel:=14) rfl (by kernel_rfl) (by kernel_rfl) (by kernel_rfl) (fun _ _ _ h=>h) (.inl ⟨rfl,fun W hW=>by go_simp⟩) hS ?_
  refine wpAnyH_take (i:=1) (v:=.pointer (some ⟨p,0,none⟩)) (fuel:=13) rfl (by kernel_rfl) (by kernel_rfl) (by kernel_rfl) (fun _ _ _ h=>h) (.inl ⟨rfl,fun W hW=>by go_simp⟩) hS ?_
  refine wpAnyH_take (i:=2) (v:=.pointer (some ⟨p,105,none⟩)) (fuel:=12) rfl (by kernel_rfl) (by kernel_rfl) (by kernel_rfl) (fun _ _ _ h=>h) (.inl ⟨rfl,fun W hW=>by go_simp⟩) hS ?_
  refine wpAnyH_take (i:=3) (v:=.map (some ms)) (fuel:=11) rfl (by kernel_rfl) (by kernel_rfl) (by kernel_rfl) (fun _ _ _ h=>h) (.inl ⟨rfl,fun W hW=>by have c5:=(sess_tail Hl.out hW).2; go_simp⟩) hS ?_
  refine wpAnyH_take (i:=4) (v:=.string ⟨bytes.toArray⟩) (fuel:=10) rfl (by kernel_rfl) (by kernel_rfl) (by kernel_rfl) (fun _ _ _ h=>h) (.inl ⟨rfl,fun W hW=>by go_simp⟩) hS ?_
  refine wpAnyH_take (i:=5) (v:=.slice va vl vc) (fuel:=9) rfl (by kernel_rfl) (by kernel_rfl) (by kernel_rfl) (fun _ _ _ h=>h) (.inl ⟨rfl,fun W hW=>by go_simp⟩) hS ?_
  refine wpAnyH_take (i:=6) (v:=.pointer (some ⟨p,0,none⟩)) (fuel:=8) rfl (by kernel_rfl) (by kernel_rfl) (by kernel_rfl) (fun _ _ _ h=>h) (.inl ⟨rfl,fun W hW=>by go_simp⟩) hS ?_
  refine wpAnyH_take (i:=7) (v:=.pointer (some ⟨p,0,none⟩)) (fuel:=7) rfl (by kernel_rfl) (by kernel_rfl) (by kernel_rfl) (fun _ _ _ h=>h) (.inl ⟨rfl,fun W hW=>by go_simp⟩) hS ?_
  refine wpAnyH_take (i:=8) (v:=.pointer (some ⟨p,0,none⟩)) (fuel:=6) rfl (by kernel_rfl) (by kernel_rfl) (by kernel_rfl) (fun _ _ _ h=>h) (.inl ⟨rfl,fun W hW=>by go_simp⟩) hS ?_
  refine wpAnyH_take (i:=9) (v:=.pointer (some ⟨p,66,none⟩)) (fuel:=5) rfl (by kernel_rfl) (by kernel_rfl) (by kernel_rfl) (fun _ _ _ h=>h) (.inl ⟨rfl,fun W hW=>by go_simp⟩) hS ?_
  refine wpAnyH_take (i:=10) (v:=.agg ((cs.drop 66).take 32).toArray) (fuel:=4) rfl (by kernel_rfl) (by kernel_rfl) (by kernel_rfl) (fun _ _ _ h=>h) (.inl ⟨rfl,fun W hW=>exec_load (t:=32) (x:=.tmp 39) (ptr:=.pointer (some ⟨p,66,none⟩)) (by kernel_rfl) (by kernel_rfl) (load_tgt Hl.out hW)⟩) hS ?_
  refine wpAnyH_take (i:=11) (v:=.slice va vl vc) (fuel:=3) rfl (by kernel_rfl) (by kernel_rfl) (by kernel_rfl) (fun _ _ _ h=>h) (.inl ⟨rfl,fun W hW=>by go_simp⟩) hS ?_
  refine wpAnyH_ready (rs:=[12]) (by kernel_rfl) (by simp) ?_
  refine AllReadyH.cons rfl (fun K hK=>?_) AllReadyH.nil
  rw [if_pos (by kernel_rfl)]
  go_simp
  have hm0:m < w.heap.size:=Hs.out.store.2.2.1.lt
  have hms0:ms < w.heap.size:=Hs.out.owns.lt
  have hp0:p < w.heap.size:=(Array.getElem?_eq_some_iff.1 Hs.out.sess).1
  have hz1:=hb1.size
  have hz2:w1.heap.size≤w2.heap.size:=hg2.size
  have ha2:∀ p u,S1 p=some u→w2.drew.cell? p=some u:=fun p' u' h'=>hg2.cell (ha1 p' u' h') (fun e=>by have:=hS1 p' u' h'; cases e; omega)
  refine (Hof.out S1 w2.drew _ ha2 hv).mono ?_
  rintro e w3 ⟨S3,u,rfl,le3,new3,ha3,hu,hb3⟩
  obtain ⟨a2,l2,c2,a3,l3,c3,rfl⟩:=side_shape hu
  have hz3:w2.heap.size≤w3.heap.size:=hb3.size
  have hS3:w3.heap[p]?=some (.cells (sessCells cs q ms).toArray 91):=(hb3.block p (show p < w2.heap.size by omega)).trans hS
  refine hK _ _ hS3 fun _=>?_
  clear hK K
  refine wpAnyH_take (i:=13) (v:=.agg #[.slice va vl vc,.slice a2 l2 c2,.slice a3 l3 c3]) (fuel:=1) rfl (by kernel_rfl) (by kernel_rfl) (by kernel_rfl) (fun _ _ _ h=>h) (.inl ⟨rfl,fun W hW=>exec_build (t:=101) (ps:=#[(0,.tmp 35),(1,.tmp 42)]) (by kernel_rfl) (by kernel_rfl) (build101 va a2 a3 vl vc l2 c2 l3 c3 W)⟩) hS3 ?_
  have hown1:w1.ownsMap Tryz.prog 9 heldR ms n2 E:=Hs1.out.owns
  have hown2:w2.ownsMap Tryz.prog 9 heldR ms n2 E:=hown1.kept hg2 (fun e=>Hs.out.mms (by cases e; rfl))
  have hown3:w3.ownsMap Tryz.prog 9 heldR ms n2 E:=hown2.drew.kept (grownBy_of_below hb3 none) (by simp)
  obtain ⟨w4,hrun,hown4,hg4⟩:=hown3.update Tryz.keyed9 Tryz.under89 Hrest.out.2.2.2.1 (keyOf_string_mk Tryz.under9 (s:=⟨bytes.toArray⟩) (show bytes.length≤_ from hbl2)) (val:=.agg #[.slice va vl vc,.slice a2 l2 c2,.slice a3 l3 c3]) (d:=.held (.agg #[.slice va vl vc,.slice a2 l2 c2,.slice a3 l3 c3])) (ps:=[]) rfl
  refine wpAnyH_ready (rs:=[14]) (by kernel_rfl) (by simp) ?_
  refine AllReadyH.cons rfl (fun K hK=>?_) AllReadyH.nil
  rw [if_pos (by kernel_rfl)]
  go_simp
  have hS4:w4.heap[p]?=some (.cells (sessCells cs q ms).toArray 91):=(hg4.block p (by omega) (fun e=>Hs.out.pms (by cases e; rfl))).trans hS3
  refine hK _ _ hS4 fun _=>?_
  clear hK K
  refine wpAnyH_done (by kernel_rfl) ?_ _
  go_wp2
  have hst3:Tryz.StoreAt w3 q m room (n+1) (D.put (.string bytes) (.lit (.int .i64 (Maps.size D)))):=hst2.kept (w:=w2) (hb3.block q hst2.2.2.2.2) (hb3.block m hst2.2.2.1.lt) hz3
  have hst4:Tryz.StoreAt w4 q m room (n+1) (D.put (.string bytes) (.lit (.int .i64 (Maps.size D)))):=hst3.kept (hg4.block q hst3.2.2.2.2 (fun e=>Hs.out.qms (by cases e; rfl))) (hg4.block m hst3.2.2.1.lt (fun e=>Hs.out.mms (by cases e; rfl))) hg4.size
  have hge:∀ p u,S3 p=some u→w.heap.size≤p.block:=fun p' u' h'=>(new3 p' u' h').elim (fun h1=>hS1 p' u' h1) (fun h1=>Nat.le_trans (Nat.le_trans hz1 hz2) h1)
  refine bodyPost_ret (results_tmp2 rfl _ _ _) rfl ⟨rfl,S3,_,_,_,⟨hS4,hst4,hown4,Hs.out.pq,Hs.out.pm,Hs.out.pms,Hs.out.qms,Hs.out.mms⟩,hv.mono le3,hu,hge,fun p' u' h'=>hg4.cell (ha3 p' u' h') (fun e=>by have:=hge p' u' h'; cases e; omega),?_⟩
  refine ⟨?_,?_,?_,?_,fun k hk hx=>?_⟩
  · exact hg4.os.trans (hb3.os.trans (hg2.os.trans hb1.os))
  · exact hg4.tape.trans (hb3.tape.trans (hg2.tape.trans hb1.tape))
  · exact hg4.output.trans (hb3.output.trans (hg2.output.trans hb1.output))
  · have:=hg4.size; omega
  · have h1:k≠m:=fun e=>hx (by simp [e])
    have h2:k≠ms:=fun e=>hx (by simp [e])
    exact (hg4.block k (by omega) (fun e=>h2 (by cases e; rfl))).trans ((hb3.block k (show k < w2.heap.size by omega)).trans ((hg2.block k (by omega) (fun e=>h1 (by cases e; rfl))).trans (hb1.block k hk)))
end Go.Proofs.YtlkkebfjmbfgpaaGreatDoor.Ev

namespace Go.Proofs
open Go Go.RowKit Go.Maps Go.WideMaps Go.Sort
theorem Tryz.info9:(Tryz.prog.info? 9).map (fun i=>(i.zero,i.size,i.bytes))=some (some (.string ⟨#[]⟩),1,16):=by kernel_rfl
set_option maxRecDepth 100000 in
set_option maxHeartbeats 2000000 in
theorem Tryz.storeAll {w:World} {q m n:Nat} {room:Int} {D0:DataW Unit} (h:Tryz.StoreAt w q m room n D0) (hmax:Maps.size D0≤maxLen) (hbytes:16*Maps.size D0≤140737488355328) :
    Calls Tryz.prog 146 #[.pointer (some ⟨q,0,none⟩)] w fun e w'=>∃ (v:Value) (ss:List (List UInt8)),e=.returned v∧ss.Perm (strKeys D0)∧w'.ownsRow w.heap.size 9 1 v ss.length ((ss.mergeSort (fun x y=>decide (x≤y))).map encStr)∧Below w.heap.size w w':=by
  obtain ⟨i0,hi,hz0,hz1,hz2⟩:=info_parts Tryz.info9
  obtain ⟨c0,c1,hown,hne,hlt⟩:=h
  have hbl:=hown.lt
  go_enter Tryz.func146,Tryz.ntmps146
  go_wp2_with (first
    | (at_range; refine wpList_range_own _ rfl _ 147 rfl 9 3 Tryz.keyed9 Tryz.under147 _ m n _ rfl hown ?_; intro w0 hrg0 hg0 hs0)
    | go_in)
  go_frame
  clear hs0
  go_loopw [3] (fun v wr=>∃ (left:Lit→Bool) (cnt:Nat) (ss:List (List UInt8)),wr.ranges Tryz.prog 9 (plainElem Tryz.prog 3) m w.heap.size n D0 left cnt∧ss.length+cnt≤Maps.size D0 ∧
      wr.ownsRow w.heap.size 9 1 v ss.length (ss.map encStr)∧Collected D0 left ss∧Below w.heap.size w wr)
    (fun _ wr=>wr.rangeLeft m w.heap.size)
  case atStart =>
    exact ⟨_,_,[],hrg0,by simp,World.ownsRow_nil _ _ _ _,Collected.start D0,(Below.refl _ _).grown hg0 (Nat.le_refl _) (fun j hj=>by cases hj)⟩
  case round =>
    obtain ⟨left,cnt,ss,hrg,hcs,hrow,hC,hnx⟩:=hrel
    go_wp2_with (first
      | (at_next; refine wpList_next_ranges _ rfl _ rfl 9 Tryz.keyed9 (plainElem Tryz.prog 3) encStr (Value.int .i64) (fun key kl hk=>by obtain ⟨x,hx,_⟩:=Maps.keyOf_str Tryz.under9 hk; exact ⟨x,hx⟩) (fun v y hv=>by obtain ⟨c,rfl,_⟩:=plainElem_int_inv Tryz.under3 hv; exact ⟨c,rfl⟩) m w.heap.size n _ _ _ rfl hrg ?_ ?_)
      | go_in)
    · intro hc0 hl0
      rcases hrow.2 with ⟨rfl,hnil⟩ | ⟨g,cap,cur,rfl,hbase,hb,h1,h2,h3,h4⟩
      · obtain rfl:ss=[]:=List.eq_nil_of_length_eq_zero hnil
        go_wp2_with (go_at_call 196; refine (Tryz.slices_Sort_string_none _ _ _).mono ?_; rintro e w' ⟨rfl,rfl⟩)
        refine bodyPost_ret (results_tmp rfl _ _ _) rfl ⟨_,[],rfl,hC.perm hown Tryz.keyed9 Tryz.under9 hl0,?_,hnx⟩
        simpa using hrow
      · have hH:Holds encStr wr g 0 ss.toArray:=holds_of_block hb (by simpa using h4)
        have hgl:g < wr.heap.size:=(Array.getElem?_eq_some_iff.1 hb).1
        have hc:=Tryz.slices_Sort_string g 0 cap ss wr hH hgl (by omega)
        go_wp2_with (go_at_call 196; refine hc.mono ?_; rintro e w' ⟨rfl,nn,os,rfl⟩)
        refine bodyPost_ret (results_tmp rfl _ _ _) rfl ⟨_,ss,rfl,hC.perm hown Tryz.keyed9 Tryz.under9 hl0,ownsRow_sorted (by simp) hbase hb h1 h2 h3,hnx.grown (grownBy_sorted _) hnx.size (fun j hj=>by cases hj; exact hbase)⟩
    · intro x c kl yd yp w2 cnt2 hkey hlk hv hat hrg2 hlt hg2 hs2 hen
      obtain ⟨x',ex,rfl,_⟩:=Maps.keyOf_str Tryz.under9 hkey
      obtain rfl:x=x':=encStr_inj ex
      have hrow2:=hrow.kept hg2 (Or.inr (row_ne_iter hrow hrg).symm)
      clear hs2
      go_wp2_with (first
        | (at_builtin; refine wpList_append_own _ rfl _ _ 22 rfl w.heap.size 9 i0 (.string ⟨#[]⟩) 1 16 Tryz.underlying22 hi hz0 hz1 hz2 rfl (by decide) _ _ _ rfl (hrow2.alloc _) ⟨w2.heap.size,0,none⟩ 1 1 [encStr x] rfl rfl (cell_one_new _ _ _) (by simp [Value.oneCell',encStr]) (by unfold maxLen at *; omega) (by omega) (by have:=hnx.size; have:=hg2.size; simp; omega) ?_; intro v' w3 hown' hg3 hnil3; go_frame)
        | go_in)
      have hrg3:=(hrg2.alloc _).kept hg3 (row_ne_low hrow2 hbl) (row_ne_iter hrow2 hrg2)
      go_roundw
      case rel =>
        refine ⟨_,cnt2,ss++[x],hrg3,by simp; omega,by simpa using hown',hC.step hlk hat,?_⟩
        exact ((hnx.grown hg2 hnx.size (fun j hj=>by cases hj; exact Nat.le_refl _)).alloc (by have:=hnx.size; have:=hg2.size; omega) _).grown hg3 (by have:=hnx.size; have:=hg2.size; simp; omega) (fun j hj=>(hrow2.lt j hj).1)
      case measure=>rw [hrg3.left_eq,hrg.left_eq]; exact hlt
end Go.Proofs

namespace Go.Proofs.YtlkkebfjmbfgpaaGreatDoor.Ev
open Go Go.RowKit Go.Maps Go.WideMaps Go.Sort
theorem cell_two_new (w:World) (x y:Value) (t:TypeId):∀ j u,[x,y][j]?=some u→(w.alloc (.cells #[x,y] t)).cell? ((⟨w.heap.size,0,none⟩:Addr).add j)=some u:=by
  intro j u hj
  match j,hj with
  | 0,hj=>simp at hj; subst hj; simp [Addr.add]
  | 1,hj=>simp at hj; subst hj; simp [Addr.add]
theorem Tryz.info98:(Tryz.prog.info? 98).map (fun i=>(i.zero,i.size,i.bytes))=some (some (.agg #[.slice none 0 0,.slice none 0 0]),2,48):=by kernel_rfl
theorem field101 (x y z:Value) (W:World):Sem.run Tryz.prog (Instr.field 101 (.agg #[x,y,z]) 1) W=.ok (.agg #[y,z]) W:=by kernel_rfl
set_option maxRecDepth 100000 in
set_option maxHeartbeats 1000000 in
theorem verdicts1 {cs:List Value} (hl:cs.length=104) {w:World} {p q m ms n n2:Nat} {room:Int} {D:DataW Unit} {E:DataW Value} (hs:SessAt w cs p q m ms n n2 room D E)
    {bytes:List UInt8} (hbl:bytes.length≤maxLen) (hkeys:strKeys D=[bytes]) (hsz:Maps.size D≤1) {v:Value} {a2 a3:Option Addr} {l2 c2 l3 c3:Nat} (hE:∀ zd,E.atKey (.string bytes) zd=.held (.agg #[v,.slice a2 l2 c2,.slice a3 l3 c3]))
    {S:Snap} (hS:∀ p u,S p=some u→w.cell? p=some u) {side:AV} (hside:VRep S sideT (.agg #[.slice a2 l2 c2,.slice a3 l3 c3]) side) {M:Int} (hM:cs[98]?=some (.int .i64 M))
    {verd:AV} (hall:∀ (S:Snap) (W:World) (x:Value),(∀ p u,S p=some u→W.cell? p=some u)→VRep S (.slice sideT) x (.slice [side])→Calls Tryz.prog 147 #[x,.int .i64 M] W fun e w'=>∃ S' u,e=.returned u∧S.le S'∧(∀ p u,S' p=some u→S p=some u∨W.heap.size≤p.block)∧(∀ p u,S' p=some u→w'.cell? p=some u)∧VRep S' (.slice (.slice (.int .i64))) u verd∧Below W.heap.size W w') :
    Calls Tryz.prog 87 #[.pointer (some ⟨p,0,none⟩)] w fun e w'=>∃ S' g c u,e=.returned (.tuple #[.slice (some ⟨g,0,none⟩) 1 c,u])∧1≤c∧w'.cell? ⟨g,0,none⟩=some (.string ⟨bytes.toArray⟩)∧w.heap.size≤g∧S.le S'∧(∀ p u,S' p=some u→S p=some u∨w.heap.size≤p.block)∧(∀ p u,S' p=some u→w'.cell? p=some u)∧VRep S' (.slice (.slice (.int .i64))) u verd∧Below w.heap.size w w':=by
  obtain ⟨i0,hi,hz0,hz1,hz2⟩:=info_parts Tryz.info98
  have Hall:Hid _:=hall
  have Hs:Hid _:=hs
  have Hl:Hid _:=hl
  have HS:Hid _:=hS
  have Hside:Hid _:=hside
  have HM:Hid _:=hM
  have Hr:Hid _:=And.intro hkeys (And.intro hE hbl)
  have hstore:=Tryz.storeAll hs.store (Nat.le_trans hsz (by decide)) (by omega)
  have ct:=(sess_tail hl hs.sess).1
  clear hall hs hl hS hside hM hkeys hE hbl hsz
  go_enter Tryz.func87,Tryz.ntmps87
  go_wp2_with (first
    | (go_at_call 146; refine hstore.mono ?_; rintro e w1 ⟨vk,ss,rfl,hperm,hrow,hb1⟩
       obtain rfl:ss=[bytes]:=by rw [Hr.out.1] at hperm; exact List.perm_singleton.1 hperm
       obtain ⟨g,c,rfl,hc1,hg0,hgk⟩:∃ g c,vk=.slice (some ⟨g,0,none⟩) 1 c∧1≤c∧w.heap.size≤g∧w1.cell? ⟨g,0,none⟩=some (.string ⟨bytes.toArray⟩):=by
         rcases hrow.2 with ⟨_,h⟩ | ⟨g,cap,cur,hv,hbase,hb,h1,h2,h3,h4⟩
         · cases h
         · exact ⟨g,cap,hv,h1,hbase,by simpa [Addr.add] using hrow.cells (g:=g) (by rw [hv]; rfl) 0 (.string ⟨bytes.toArray⟩) (by simp [encStr])⟩))
  refine wp_loop_rounds 2 ?_
  rw [rounds_succ]
  have Hs1:Hid _:=Hs.out.kept hb1
  have ct1:=(sess_tail Hl.out Hs1.out.sess).2
  have cM:=sess_cell Hs1.out.sess HM.out
  obtain ⟨x,xp,hlook,hx⟩:=(show w1.ownsMap Tryz.prog 9 heldR ms n2 E from Hs1.out.owns).lookup Tryz.keyed9 Tryz.under89 (Tryz.zero101 w1) (zd:=.held (.agg #[.slice none 0 0,.slice none 0 0,.slice none 0 0])) (zp:=[]) rfl (keyOf_string_mk Tryz.under9 (s:=⟨bytes.toArray⟩) (show bytes.length≤_ from Hr.out.2.2))
  rw [show (⟨bytes.toArray⟩:ByteArray).data.toList=bytes from rfl,Hr.out.2.1] at hx
  obtain rfl:x=.agg #[v,.slice a2 l2 c2,.slice a3 l3 c3]:=by
    have h1:=congrArg (fun o=>o.map Prod.fst) hx
    simpa [heldR] using h1
  clear hx
  have hfd:=field101 v (.slice a2 l2 c2) (.slice a3 l3 c3)
  have hle1:=hb1.size
  go_wp2_with (first
    | (at_builtin; refine wpList_append_own _ rfl _ _ 241 rfl w1.heap.size 98 i0 (.agg #[.slice none 0 0,.slice none 0 0]) 2 48 Tryz.underlying241 hi hz0 hz1 hz2 rfl (by decide) _ _ _ rfl (World.ownsRow_nil _ _ _ _) ⟨w1.heap.size,0,none⟩ 1 1 [.slice a2 l2 c2,.slice a3 l3 c3] rfl rfl (cell_two_new _ _ _ _) (by simp [Value.oneCell']) (by decide) (by decide) (by simp) ?_; intro v' w3 hown3 hg3 hnil3))
  rw [rounds_succ]
  obtain ⟨g3,k3,rfl,hg3b,hk3,hcell3⟩:∃ g3 k3,v'=.slice (some ⟨g3,0,none⟩) 1 k3∧w1.heap.size≤g3∧(1≤k3∧k3≤maxLen)∧∀ j u,[Value.slice a2 l2 c2,.slice a3 l3 c3][j]?=some u→w3.cell? ⟨g3,j,none⟩=some u:=by
    rcases hown3.2 with ⟨_,h⟩ | ⟨g',cap,cur,hv,hbase,hb,h1,h2,h3,h4⟩
    · cases h
    · refine ⟨g',cap,hv,hbase,⟨h1,h2⟩,fun j u hj=>?_⟩
      have:=hown3.cells (g:=g') (by rw [hv]; rfl) j u hj
      rwa [add_plain,Nat.zero_add] at this
  have hb3:Below w1.heap.size w1 w3:=(((Below.refl _ w1).alloc (Nat.le_refl _) _)).trans (below_le (below_of_grownBy hg3) (by simp))
  have hs3:Hid _:=(Hs1.out.kept hb3)
  have cM3:=sess_cell hs3.out.sess HM.out
  clear cM ct1 hlook
  have hlt:∀ p u,S p=some u→p.block < w.heap.size:=fun p' u' h'=>World.block_lt_of_cell? _ _ (HS.out p' u' h')
  have hoff:S.off g3 0:=fun p' hp' _=>by
    cases hx:S p' with
    | none=>rfl
    | some u=>have:=hlt p' u hx; omega
  have hb13:Below w.heap.size w w3:=hb1.trans (below_le hb3 hle1)
  have hag3:∀ p u,S.plus g3 0 [.slice a2 l2 c2,.slice a3 l3 c3] p=some u→w3.cell? p=some u:=fun p' u' h'=>by
    rcases Snap.plus_new h' with h1 | ⟨h1,h2,_,h4⟩
    · exact (hb13.cell (hlt p' u' h1)).trans (HS.out p' u' h1)
    · obtain ⟨pb,po,ps⟩:=p'
      simp only at h1 h2 h4
      subst h1; subst h2
      exact hcell3 po u' (by simpa using h4)
  have hv3:VRep (S.plus g3 0 [.slice a2 l2 c2,.slice a3 l3 c3]) (.slice sideT) (.slice (some ⟨g3,0,none⟩) 1 k3) (.slice [side]):=by
    refine VRep.slice_mk (cs:=[.slice a2 l2 c2,.slice a3 l3 c3]) ?_ (Snap.plus_has _ hoff) hk3.1 hk3.2
    refine ⟨[side],rfl,rfl,rfl,fun i y hy=>?_⟩
    match i,hy with
    | 0,hy =>
      cases hy
      obtain ⟨ds,hds,hrep⟩:=Hside.out
      have e1:ds=[.slice a2 l2 c2,.slice a3 l3 c3]:=by
        have:Value.agg ds.toArray=.agg #[.slice a2 l2 c2,.slice a3 l3 c3]:=hds.symm
        simp only [Value.agg.injEq] at this
        have h2:=congrArg Array.toList this
        simpa using h2
      subst e1
      exact Rep.mono (Snap.le_plus _ _ _ _) _ _ _ hrep
  have hcall:=Hall.out _ w3 _ hag3 hv3
  clear hfd
  go_wp2_with (go_at_call 147; refine hcall.mono ?_; rintro e w4 ⟨S4,u,rfl,le4,new4,ha4,hu,hb4⟩)
  refine bodyPost_ret (results_tmp2 rfl _ _ _) rfl ⟨S4,g,c,u,rfl,hc1,?_,hg0,Snap.le_trans (Snap.le_plus _ _ _ _) le4,fun p' u' h'=>?_,ha4,hu,hb13.trans (below_le hb4 hb13.size)⟩
  · have h1:w3.cell? ⟨g,0,none⟩=some (.string ⟨bytes.toArray⟩):=(hb3.cell (World.block_lt_of_cell? _ _ hgk)).trans hgk
    exact (hb4.cell (World.block_lt_of_cell? _ _ h1)).trans h1
  · rcases new4 p' u' h' with h1 | h1
    · rcases Snap.plus_new h1 with h2 | ⟨h2,_⟩
      · exact .inl h2
      · exact .inr (by omega)
    · exact .inr (Nat.le_trans hb13.size h1)
end Go.Proofs.YtlkkebfjmbfgpaaGreatDoor.Ev

