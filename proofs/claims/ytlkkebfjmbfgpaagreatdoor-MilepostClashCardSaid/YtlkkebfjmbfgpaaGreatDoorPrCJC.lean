import Derived.Test.YtlkkebfjmbfgpaaGreatDoorPrCJB
namespace Go.Proofs.YtlkkebfjmbfgpaaGreatDoor.Ev
open Go Go.RowKit Go.Maps Go.WideMaps Go.Sort
theorem wp_storeVar {P:Program} {o:Oper} {a:Act} {w w':World} {next:Act→World→Prop} {Q:Exit→Act→World→Prop} {t:TypeId} {x y:Operand} {ptr v:Value} (hop:o.op=Op.store t x y) (hx:a.eval x=ptr) (hy:a.eval y=v)
    (hr:Sem.run P (Instr.storeAt t ptr v) w=.ok () w') (hn:next (a.put o.dst undef) w'):o.wp P a w next Q:=by
  unfold Oper.wp
  simp [execOp,hop,hx,hy,hr,Result.andThen]
  exact hn
theorem wpList_store {P:Program} {ops:Array Oper} {rest:List Oper} {o:Oper} {a:Act} {Q:Exit→Act→World→Prop} {w w':World} (hg:o.guard=none) {t:TypeId} {x y:Operand} {ptr v:Value} (hop:o.op=Op.store t x y) (hx:a.eval x=ptr) (hy:a.eval y=v)
    (hr:Sem.run P (Instr.storeAt t ptr v) w=.ok () w') (h:wpList P ops Q rest (a.put o.dst undef) w'):wpList P ops Q (o::rest) a w :=
  wpList_plain hg fun _ hK=>wp_storeVar hop hx hy hr (hK _ _ h)
theorem store_row {t:TypeId} {n:Nat} (hs:∀ w,(sizeOf t).run Tryz.prog w=.ok n w) {ds:List Value} {cs0:Array Value} (hl:ds.length=n) (h1:(ds.all fun u=>u.oneCell')=true) {b tid:Nat} {w:World} (hb:w.heap[b]?=some (.cells cs0 tid (0,0))) (hsz:cs0.size=n) :
    (Instr.storeAt t (.pointer (some ⟨b,0,none⟩)) (.agg ds.toArray)).run Tryz.prog w=.ok () (w.setRow b ds.toArray):=by
  have hst:=run_storeCells_at Tryz.prog b 0 tid ds 0 cs0 w hb (by omega) (List.all_eq_true.1 h1)
  have e:(cs0.toList.take (0+0)++ds++cs0.toList.drop (0+0+ds.length)).toArray=ds.toArray:=by
    rw [List.drop_eq_nil_of_le (by simp; omega)]
    simp
  rw [e] at hst
  have hc:(Value.agg ds.toArray).cells=ds.toArray:=rfl
  simp [Instr.storeAt,Instr.sureAddr,storeVar,hs,hc,hst,Result.andThen,hl]
theorem load_row {t:TypeId} {n:Nat} (hs:∀ w,(sizeOf t).run Tryz.prog w=.ok n w) (ha:∀ w,(isAgg t).run Tryz.prog w=.ok true w) {ds:List Value} (hl:ds.length=n) {p:Addr} {w:World} (h:∀ j v,ds[j]?=some v→w.cell? (p.add j)=some v) :
    (loadVar t p).run Tryz.prog w=.ok (.agg ds.toArray) w:=by
  have:=run_loadCells_list (P:=Tryz.prog) w p ds h
  rw [hl] at this
  simp [loadVar,hs,ha,this,Result.andThen]
theorem cells_add {w:World} {b tid:Nat} {ds:List Value} {fr:Nat × Nat} (h:w.heap[b]?=some (.cells ds.toArray tid fr)):∀ (j:Nat) v,ds[j]?=some v→w.cell? ((⟨b,0,none⟩:Addr).add j)=some v:=fun j v hj=>by
  rw [add_plain,Nat.zero_add]
  simp [World.cell?,h,hj]
theorem results_cell2 {fn:Func} {p u:Tmp} {ty:TypeId} (h:fn.results=#[.cell p ty,.tmp u]) {tmps:Array Value} {w:World} {b:Nat} {v:Value} (hp:tmps.getD p undef=.pointer (some ⟨b,0,none⟩)) (hld:(loadVar ty ⟨b,0,none⟩).run Tryz.prog w=.ok v w) :
    (results fn tmps).run Tryz.prog w=.ok (.tuple #[v,tmps.getD u undef]) w:=by
  rw [results_cell_tmp h,hp]
  simp [asAddr,hld,Result.andThen]
theorem below_setRow {n:Nat} (w:World) (b:Nat) (cs:Array Value) (h:n≤b):Below n w (w.setRow b cs):=⟨rfl,rfl,rfl,by simp,fun k hk=>setRow_other w b k cs (by omega)⟩
theorem size64 (w:World):(sizeOf 64).run Tryz.prog w=.ok 35 w:=by kernel_rfl
theorem agg64 (w:World):(isAgg 64).run Tryz.prog w=.ok true w:=by kernel_rfl
def bestCells (b:ByteArray) (tip:List UInt8) (n k:Int):List Value:=.string b::tip.map byteV++[.int .i64 n,.int .i64 k]
theorem build64 (b:ByteArray) (n k:Int) (W:World):(Instr.build 64 #[(0,.string b),(1,.agg (wIdb.map byteV).toArray),(2,.int .i64 n),(3,.int .i64 k)]).run Tryz.prog W=.ok (.agg (bestCells b wIdb n k).toArray) W:=by kernel_rfl
set_option maxRecDepth 100000 in
theorem verdicts0 (w:World):Calls Tryz.prog 87 #[.pointer none] w fun e w'=>e=.returned (.tuple #[.slice none 0 0,.slice none 0 0])∧w'=w:=by
  go_enter Tryz.func87,Tryz.ntmps87
  go_wp2
  exact bodyPost_ret (results_tmp2 rfl _ _ _) rfl ⟨rfl,rfl⟩
theorem wins_nil (w:World):Calls Tryz.prog 89 #[.slice none 0 0] w fun e w'=>∃ a c,e=.returned (.slice a 0 c)∧Below w.heap.size w w':=by
  refine (Sat.one wins0_sat rfl (S:=noSnap) (fun _ _ h=>by cases h) ⟨_,_,_,_,rfl,rfl,⟨[.slice none 0 0],rfl,none,0,0,[],rfl,rfl,rfl,Nat.le_refl _,Nat.zero_le _,fun _=>rfl,fun p hp=>by cases hp⟩,rfl,rfl,rfl⟩).mono ?_
  rintro e w' ⟨S',v,rfl,_,_,_,hv,hb⟩
  obtain ⟨a,len,cap,es,rfl,he,hlen,_⟩:=hv.slice
  cases he
  cases hlen
  exact ⟨_,_,rfl,hb⟩
def zero64:List Value:=.string ⟨#[]⟩::List.replicate 32 (.int .u8 0)++[.int .i64 0,.int .i64 0]
set_option maxRecDepth 100000 in
theorem best0 (w:World):Calls Tryz.prog 40 #[.pointer none] w fun e w'=>e=.returned (.tuple #[.agg zero64.toArray,.iface 152 (.agg #[.iface 150 (.string Tryz.noSession)])])∧Below w.heap.size w w':=by
  go_enter Tryz.func40,Tryz.ntmps40
  go_wp2_with (first
    | (go_at_call 87; refine (verdicts0 _).mono ?_; rintro e w1 ⟨rfl,rfl⟩)
    | (go_at_call 88; refine (Tryz.winner0 _ _ (wins_nil _)).mono ?_; rintro e w2 ⟨rfl,hb2⟩
       have hblk:=(hb2.block w.heap.size (by simp)).trans (Go.MapKept.heap_alloc w _).1)
    | (refine wpList_store rfl (t:=64) (x:=.tmp 2) (y:=.tmp 18) rfl rfl rfl (store_row size64 rfl rfl hblk rfl) ?_; go_frame))
  refine bodyPost_ret (results_cell2 (p:=2) (u:=3) rfl rfl (load_row size64 agg64 rfl (cells_add (setRow_heap _ _ _ _ _ _ hblk)))) rfl ⟨rfl,?_⟩
  have h0:Below w.heap.size w w2:=((Below.refl _ w).alloc (Nat.le_refl _) _).trans (below_le hb2 (by simp))
  exact h0.trans (below_setRow _ _ _ (Nat.le_refl _))
set_option maxRecDepth 100000 in
theorem decide_of {recv err:Value} {k:Int} {ds:List Value} (hl:ds.length=35) (h1:(ds.all fun u=>u.oneCell')=true) (w:World)
    (hbest:∀ W:World,Below w.heap.size w W→Calls Tryz.prog 40 #[recv] W fun e w'=>e=.returned (.tuple #[.agg ds.toArray,err])∧Below W.heap.size W w')
    (hcode:∀ W:World,Calls Tryz.prog 37 #[err] W fun e w'=>e=.returned (.int .i64 k)∧Below W.heap.size W w') :
    Calls Tryz.prog 17 #[recv] w fun e w'=>e=.returned (.tuple #[.agg ds.toArray,.int .i64 k])∧Below w.heap.size w w':=by
  have Hb:Hid _:=hbest
  have Hc:Hid _:=hcode
  have Hl:Hid _:=hl
  clear hbest hcode hl
  go_enter Tryz.func17,Tryz.ntmps17
  go_wp2_with (first
    | (go_at_call 40; refine (Hb.out _ ((Below.refl _ w).alloc (Nat.le_refl _) _)).mono ?_; rintro e w1 ⟨rfl,hb1⟩
       have hblk:=(hb1.block w.heap.size (by simp)).trans (Go.MapKept.heap_alloc w _).1)
    | (refine wpList_store rfl (t:=64) (x:=.tmp 4) (y:=.tmp 9) rfl rfl rfl (store_row size64 Hl.out h1 (Go.MapKept.heap_alloc w1 _).1 rfl) ?_; go_frame))
  generalize hW1:World.setRow _ _ _=W1
  have hb4:W1.heap[w1.heap.size]?=some (.cells ds.toArray 64 (0,0)):=by rw [← hW1]; exact setRow_heap _ _ _ _ _ _ (Go.MapKept.heap_alloc w1 _).1
  have hlt:w.heap.size < w1.heap.size:=by have:=hb1.size; simp at this; omega
  have hb2:∃ cs0:Array Value,W1.heap[w.heap.size]?=some (.cells cs0 64 (0,0))∧cs0.size=35:=⟨_,by
    rw [← hW1,setRow_other _ _ _ _ (Nat.ne_of_lt hlt)]
    exact ((Go.MapKept.heap_alloc w1 _).2 _ hlt).trans hblk,rfl⟩
  have hB1:Below w.heap.size w W1:=by
    rw [← hW1]
    exact (((Below.refl _ w).alloc (Nat.le_refl _) _).trans (below_le hb1 (by simp))).trans (((Below.refl _ w1).alloc (Nat.le_of_lt hlt) _).trans (below_setRow _ _ _ (Nat.le_of_lt hlt)))
  clear hW1
  refine wp_region_held_drew (S:=fun W=>W.heap[w1.heap.size]?=some (.cells ds.toArray 64 (0,0))∧∃ cs0:Array Value,W.heap[w.heap.size]?=some (.cells cs0 64 (0,0))∧cs0.size=35) (by kernel_rfl) ⟨hb4,hb2⟩ fun hS=>?_
  refine wpAnyH_take (i:=0) (v:=.agg ds.toArray) (fuel:=4) rfl (by kernel_rfl) (by kernel_rfl) (by kernel_rfl) (fun _ _ _ h=>h) (.inl ⟨rfl,fun W hW=>exec_load (t:=64) (x:=.tmp 4) (ptr:=.pointer (some ⟨w1.heap.size,0,none⟩)) (by kernel_rfl) (by kernel_rfl) (by have:=load_row size64 agg64 Hl.out (cells_add hW.1); simp [Instr.loadAt,Instr.sureAddr,this])⟩) hS ?_
  refine wpAnyH_take (i:=1) (v:=err) (fuel:=3) rfl (by kernel_rfl) (by kernel_rfl) (by kernel_rfl) (fun _ _ _ h=>h) (.inl ⟨rfl,fun W hW=>by go_simp⟩) hS ?_
  refine wpAnyH_ready (rs:=[2]) (by kernel_rfl) (by simp) ?_
  refine AllReadyH.cons rfl (fun K hK=>?_) AllReadyH.nil
  rw [if_pos (by kernel_rfl)]
  go_simp
  refine (Hc.out _).mono ?_
  rintro e w2 ⟨rfl,hb5⟩
  obtain ⟨hS1,cs0,hS2,hcs⟩:=hS
  have hz5:W1.heap.size≤w2.heap.size:=hb5.size
  have k1:w2.heap[w1.heap.size]?=some (.cells ds.toArray 64 (0,0)):=(hb5.block _ (Array.getElem?_eq_some_iff.1 hb4).1).trans hS1
  have k2:w2.heap[w.heap.size]?=some (.cells cs0 64 (0,0)):=(hb5.block _ (Array.getElem?_eq_some_iff.1 hS2).1).trans hS2
  refine hK _ _ ⟨k1,cs0,k2,hcs⟩ fun _=>?_
  clear hK K
  refine wpAnyH_ready (rs:=[3]) (by kernel_rfl) (by simp) ?_
  refine AllReadyH.cons rfl (fun K hK=>?_) AllReadyH.nil
  rw [if_pos (by kernel_rfl)]
  refine wp_storeVar (t:=64) (x:=.tmp 2) (y:=.tmp 11) rfl rfl rfl (store_row size64 Hl.out h1 k2 hcs) ?_
  refine hK _ _ ⟨?_,_,setRow_heap _ _ _ _ _ _ k2,by simpa using Hl.out⟩ fun hS3=>?_
  · rw [setRow_other _ _ _ _ (Nat.ne_of_gt hlt)]; exact k1
  clear hK K
  refine wpAnyH_take (i:=4) (v:=.int .i64 k) (fuel:=0) rfl (by kernel_rfl) (by kernel_rfl) (by kernel_rfl) (fun _ _ _ h=>h) (.inl ⟨rfl,fun W hW=>by go_simp⟩) hS3 ?_
  refine wpAnyH_done (by kernel_rfl) ?_ _
  go_wp2
  refine bodyPost_ret (results_cell2 (p:=2) (u:=3) rfl rfl (load_row size64 agg64 Hl.out (cells_add (setRow_heap _ _ _ _ _ _ k2)))) rfl ⟨rfl,?_⟩
  exact ((hB1.trans (below_drew _ _)).trans (below_le hb5 hB1.size)).trans (below_setRow _ _ _ (Nat.le_refl _))
theorem decide0 (w:World):Calls Tryz.prog 17 #[.pointer none] w fun e w'=>e=.returned (.tuple #[.agg zero64.toArray,.int .i64 6])∧Below w.heap.size w w' :=
  decide_of rfl rfl w (fun W _=>best0 W) (fun W=>Tryz.code_none W)
end Go.Proofs.YtlkkebfjmbfgpaaGreatDoor.Ev

namespace Go.Proofs.YtlkkebfjmbfgpaaGreatDoor.Ev
open Go Go.RowKit
theorem wpList_load {P:Program} {ops:Array Oper} {rest:List Oper} {o:Oper} {a:Act} {Q:Exit→Act→World→Prop} {w:World} (hg:o.guard=none) {t:TypeId} {x:Operand} {ptr v:Value} (hop:o.op=Op.load t x) (hx:a.eval x=ptr)
    (hr:Sem.run P (Instr.loadAt t ptr) w=.ok v w) (h:wpList P ops Q rest (a.put o.dst v) w):wpList P ops Q (o::rest) a w :=
  wpList_plain hg fun _ hK=>wp_loadVal hop hx hr (hK _ _ h)
theorem isBuilder_kept {T:TypeId} {B b:Nat} {bs:List Value} {w w':World} (h:Lib.IsBuilder T 5 B b bs w) (hb:Below w.heap.size w w'):Lib.IsBuilder T 5 B b bs w':=by
  rcases h with h | h
  · obtain ⟨h1,v,h2,h3,h4⟩:=h
    exact .inl ⟨h1,v,(hb.block b (Array.getElem?_eq_some_iff.1 h2).1).trans h2,h3.kept (grownBy_of_below hb none) (by cases hv:v.ownBlock <;> simp),h4⟩
  · obtain ⟨h1,v,h2,h3,h4⟩:=h
    exact .inr ⟨h1,v,(hb.block b (Array.getElem?_eq_some_iff.1 h2).1).trans h2,h3.kept (grownBy_of_below hb none) (by cases hv:v.ownBlock <;> simp),h4⟩
set_option maxRecDepth 1000000
theorem put0_sat:Sat Tryz.prog f128_info 128 [.int 0] ⟨[.str [0]],[],false⟩:=sat_by 599 ext2_ok doT1_ok f128_ok (by kernel_rfl)
theorem put1_sat:Sat Tryz.prog f128_info 128 [.int 1] ⟨[.str [1]],[],false⟩:=sat_by 599 ext2_ok doT1_ok f128_ok (by kernel_rfl)
theorem put2_sat:Sat Tryz.prog f128_info 128 [.int 2] ⟨[.str [2]],[],false⟩:=sat_by 599 ext2_ok doT1_ok f128_ok (by kernel_rfl)
def oNone:AV:=.agg [.int 0,.int 0,.slice []]
def oOne:AV:=.agg [.int 0,.int 1,.slice []]
theorem none0_sat:Sat Tryz.prog f179_info 179 [oNone] ⟨[.bool true],[],false⟩:=sat_by 599 ext2_ok doT1_ok f179_ok (by kernel_rfl)
theorem none1_sat:Sat Tryz.prog f179_info 179 [oOne] ⟨[.bool false],[],false⟩:=sat_by 599 ext2_ok doT1_ok f179_ok (by kernel_rfl)
theorem may1_sat:Sat Tryz.prog f57_info 57 [oOne] ⟨[.int 0],[],false⟩:=sat_by 599 ext2_ok doT1_ok f57_ok (by kernel_rfl)
def hbG:List UInt8:=(wBytes.drop 1).take 76
def hbB:List UInt8:=(wBytes.drop 78).take 76
theorem headG_sat:Sat Tryz.prog f27_info 27 [wG] ⟨[.str hbG],[],false⟩:=sat_by 599 ext2_ok doT1_ok f27_ok (by kernel_rfl)
theorem headB_sat:Sat Tryz.prog f27_info 27 [wB] ⟨[.str hbB],[],false⟩:=sat_by 599 ext2_ok doT1_ok f27_ok (by kernel_rfl)
theorem bytes_split:[2]++(hbG++[0])++(hbB++[1,0])=wBytes:=by kernel_rfl
end Go.Proofs.YtlkkebfjmbfgpaaGreatDoor.Ev

namespace Go.Proofs.YtlkkebfjmbfgpaaGreatDoor.Ev
open Go Go.RowKit
def openT:Ty:=.struct [.int .i64,.int .i64,.slice (.blob 32)]
theorem Sat.str {i:FnInfo} {f:FuncId} {xs:List AV} {l:List UInt8} {fr:Bool} (hs:Sat Tryz.prog i f xs ⟨[.str l],[],fr⟩) (hr:i.results=[.val .str]) {S:Snap} {w:World} {vs:List Value}
    (ha:∀ p v,S p=some v→w.cell? p=some v) (hargs:ArgsRel S w i.params vs xs []) :
    Calls Tryz.prog f vs.toArray w fun e w'=>e=.returned (.string ⟨l.toArray⟩)∧Below w.heap.size w w':=by
  refine (hs.one hr ha hargs).mono ?_
  rintro e w' ⟨S',v,rfl,_,_,_,hv,hb⟩
  obtain ⟨s,rfl,h2,_⟩:=hv.str
  cases h2
  exact ⟨rfl,hb⟩
theorem Sat.boolC {i:FnInfo} {f:FuncId} {xs:List AV} {b:Bool} {fr:Bool} (hs:Sat Tryz.prog i f xs ⟨[.bool b],[],fr⟩) (hr:i.results=[.val .bool]) {S:Snap} {w:World} {vs:List Value}
    (ha:∀ p v,S p=some v→w.cell? p=some v) (hargs:ArgsRel S w i.params vs xs []) :
    Calls Tryz.prog f vs.toArray w fun e w'=>e=.returned (.bool b)∧Below w.heap.size w w':=by
  refine (hs.one hr ha hargs).mono ?_
  rintro e w' ⟨S',v,rfl,_,_,_,hv,hb⟩
  obtain ⟨s,rfl,h2⟩:=hv.bool
  cases h2
  exact ⟨rfl,hb⟩
theorem put_call {x:Int} {l:List UInt8} (h:Sat Tryz.prog f128_info 128 [.int x] ⟨[.str l],[],false⟩) (hx:(Lit.int .u64 x).wf=true) (W:World):Calls Tryz.prog 128 #[.int .u64 x] W fun e w'=>e=.returned (.string ⟨l.toArray⟩)∧Below W.heap.size W w' :=
  h.str rfl (S:=noSnap) (fun _ _ h=>by cases h) (vs:=[.int .u64 x]) ⟨_,_,_,_,rfl,rfl,VRep.int_mk hx,rfl,rfl,rfl⟩
set_option maxRecDepth 100000 in
set_option maxHeartbeats 1000000 in
theorem bufNum {B b:Nat} {x:Int} {l:List UInt8} {bs:List Value} {w:World} (h:Lib.IsBuilder 139 5 B b bs w) (hBw:B≤w.heap.size) (hput:∀ W:World,Calls Tryz.prog 128 #[.int .u64 x] W fun e w'=>e=.returned (.string ⟨l.toArray⟩)∧Below W.heap.size W w') (hl:bs.length+l.length≤100000) :
    Calls Tryz.prog 74 #[.pointer (some ⟨b,0,none⟩),.int .u64 x] w fun e w'=>e=.returned (.tuple #[])∧Lib.IsBuilder 139 5 B b (bs++Lib.byteCells l) w'∧Below B w w'∧Tryz.NotRow b w w':=by
  have Hp:=hid hput
  have H:=hid h
  have Hl:=hid hl
  have HB:=hid hBw
  have hb0:b < w.heap.size:=by rcases h with h | h <;> exact h.lt
  clear hput h hl hBw
  go_enter Tryz.func74,Tryz.ntmps74
  go_wp2_with (first
    | (go_at_call 128; refine (Hp.out _).mono ?_; rintro e w1 ⟨rfl,hb1⟩)
    | (go_at_call 75
       have hz:=hb1.size
       refine (Tryz.bufRaw B b w1.heap.size 1 [⟨l.toArray⟩] bs _ (isBuilder_kept H.out (hb1.trans (below_le ((Below.refl _ w1).alloc (Nat.le_refl _) _) hz))) (by have:=HB.out; simp; omega) 9 #[.string ⟨l.toArray⟩] (Go.MapKept.heap_alloc w1 _).1 (by decide) (by omega) (fun j t hj=>by
         match j,hj with
         | 0,hj=>cases hj; rfl) (fun k hk=>by
           have:=Hl.out
           match k,hk with
           | 0,_=>simp; omega
           | 1,_=>simp [Lib.strCells_length]; exact this) (by simp)).mono ?_
       rintro e w2 ⟨rfl,hI,hB,hN⟩))
  go_end0
  have h0:Below w.heap.size w (w1.alloc (Obj.cells #[.string ⟨l.toArray⟩] 9)):=hb1.trans ((Below.refl _ w1).alloc hz _)
  refine ⟨rfl,?_,(below_le h0 HB.out).trans hB,(Tryz.NotRow.below h0).trans hN⟩
  have e:List.flatMap Lib.strCells [⟨l.toArray⟩]=Lib.byteCells l:=by simp [Lib.strCells,Lib.byteCells]
  rw [e] at hI
  exact hI
set_option maxRecDepth 100000 in
theorem bufBytes {B b:Nat} {l:List UInt8} {w:World} (h:Lib.IsBuilder 139 5 B b (Lib.byteCells l) w) (h0:l≠[]) :
    Calls Tryz.prog 33 #[.pointer (some ⟨b,0,none⟩)] w fun e w'=>e=.returned (.string ⟨l.toArray⟩)∧Below B w w':=by
  have hc:=hid (Tryz.builderString B b l w h h0)
  clear h
  go_enter Tryz.func33,Tryz.ntmps33
  go_wp2_with (go_at_call 45; refine hc.out.mono ?_; rintro e w1 ⟨rfl,hb⟩)
  exact bodyPost_ret (results_tmp rfl _ _ _) rfl ⟨rfl,hb⟩
set_option maxRecDepth 100000 in
theorem bufHash0 (v:Value) (a:Option Addr) (c:Nat) (w:World):Calls Tryz.prog 180 #[v,.slice a 0 c] w fun e w'=>e=.returned (.tuple #[])∧w'=w:=by
  go_enter Tryz.func180,Tryz.ntmps180
  go_wp2
  refine wp_loop_rounds 1 ?_
  rw [rounds_succ]
  go_wp2
  go_end0
  exact ⟨rfl,rfl⟩
theorem open_rep (i n:Int) (hi:(Lit.int .i64 i).wf=true) (hn:(Lit.int .i64 n).wf=true) (a:Option Addr) (c:Nat) (hc:c≤maxLen) (ha:a=none→c=0):VRep noSnap openT (.agg #[.int .i64 i,.int .i64 n,.slice a 0 c]) (.agg [.int i,.int n,.slice []]):=by
  refine ⟨[.int .i64 i,.int .i64 n,.slice a 0 c],rfl,[.int i,.int n,.slice []],rfl,?_⟩
  refine ⟨_,_,rfl,by simp [Ty.size],⟨i,rfl,rfl,hi⟩,_,_,rfl,by simp [Ty.size],⟨n,rfl,rfl,hn⟩,_,_,rfl,by simp [Ty.size],⟨a,0,c,[],rfl,rfl,rfl,Nat.zero_le _,hc,ha,fun p _ i y hy=>by cases i <;> cases hy⟩,rfl,rfl⟩
theorem none_call {o:AV} {b:Bool} (h:Sat Tryz.prog f179_info 179 [o] ⟨[.bool b],[],false⟩) {v:Value} (hv:VRep noSnap openT v o) (W:World):Calls Tryz.prog 179 #[v] W fun e w'=>e=.returned (.bool b)∧Below W.heap.size W w' :=
  h.boolC rfl (S:=noSnap) (fun _ _ h=>by cases h) (vs:=[v]) ⟨_,_,_,_,rfl,rfl,hv,rfl,rfl,rfl⟩
theorem box3 {w w1:World} {x y z:Value} {t:TypeId} (h:Below (w.alloc (.cells #[x,y,z] t)).heap.size (w.alloc (.cells #[x,y,z] t)) w1):w1.cell? ⟨w.heap.size,0,none⟩=some x∧w1.cell? ⟨w.heap.size,1,none⟩=some y∧w1.cell? ⟨w.heap.size,2,none⟩=some z :=
  ⟨(h.cell (by simp)).trans (by simp),(h.cell (by simp)).trans (by simp),(h.cell (by simp)).trans (by simp)⟩
set_option maxRecDepth 100000 in
set_option maxHeartbeats 1000000 in
theorem opening0 (a:Option Addr) (c:Nat) (hc:c≤maxLen) (ha:a=none→c=0) (w:World) :
    Calls Tryz.prog 127 #[.agg #[.int .i64 0,.int .i64 0,.slice a 0 c]] w fun e w'=>e=.returned (.tuple #[.string ⟨([0]:List UInt8).toArray⟩,.int .i64 0])∧Below w.heap.size w w':=by
  have hn:=none_call none0_sat (open_rep 0 0 (by decide) (by decide) a c hc ha)
  go_enter Tryz.func127,Tryz.ntmps127
  go_wp2_with (first
    | (go_at_call 31; refine (Tryz.bufNew _).mono ?_; rintro e w1 ⟨rfl,hI,hb1⟩
       have k:=box3 hb1
       rw [World.size_alloc] at hI
       obtain ⟨k0,k1,k2⟩:=k)
    | (go_at_call 179; refine (hn _).mono ?_; rintro e w2 ⟨rfl,hb2⟩)
    | (go_at_call 74; refine (bufNum (isBuilder_kept hI hb2) (by have:=hb1.size; have:=hb2.size; simp at *; omega) (put_call put0_sat (by decide)) (by simp)).mono ?_; rintro e w3 ⟨rfl,hI3,hb3,hn3⟩)
    | (go_at_call 33; refine (bufBytes (l:=[0]) hI3 (by decide)).mono ?_; rintro e w4 ⟨rfl,hb4⟩))
  have hz1:=hb1.size
  have hz2:=hb2.size
  have hz3:=hb3.size
  simp at hz1
  refine bodyPost_ret (results_tmp2 rfl _ _ _) rfl ⟨rfl,?_⟩
  have h1:Below w.heap.size w w1:=((Below.refl _ w).alloc (Nat.le_refl _) _).trans (below_le hb1 (by simp))
  exact (h1.trans (below_le hb2 (by omega))).trans ((below_le hb3 (by simp)).trans (below_le hb4 (by simp)))
set_option maxRecDepth 100000 in
set_option maxHeartbeats 1000000 in
theorem opening1 (a:Option Addr) (c:Nat) (hc:c≤maxLen) (ha:a=none→c=0) (w:World) :
    Calls Tryz.prog 127 #[.agg #[.int .i64 0,.int .i64 1,.slice a 0 c]] w fun e w'=>e=.returned (.tuple #[.string ⟨([1,0]:List UInt8).toArray⟩,.int .i64 0])∧Below w.heap.size w w':=by
  have hn:=none_call none1_sat (open_rep 0 1 (by decide) (by decide) a c hc ha)
  have hm:∀ W:World,Calls Tryz.prog 57 #[.agg #[.int .i64 0,.int .i64 1,.slice a 0 c]] W fun e w'=>e=.returned (.int .i64 0)∧Below W.heap.size W w':=fun W =>
    may1_sat.int rfl (S:=noSnap) (fun _ _ h=>by cases h) (vs:=[.agg #[.int .i64 0,.int .i64 1,.slice a 0 c]]) ⟨_,_,_,_,rfl,rfl,open_rep 0 1 (by decide) (by decide) a c hc ha,rfl,rfl,rfl⟩
  go_enter Tryz.func127,Tryz.ntmps127
  go_wp2_with (first
    | (go_at_call 31; refine (Tryz.bufNew _).mono ?_; rintro e w1 ⟨rfl,hI,hb1⟩
       have k:=box3 hb1
       rw [World.size_alloc] at hI
       obtain ⟨k0,k1,k2⟩:=k)
    | (go_at_call 179; refine (hn _).mono ?_; rintro e w2 ⟨rfl,hb2⟩
       have l0:=(hb2.cell (World.block_lt_of_cell? _ _ k0)).trans k0
       have l1:=(hb2.cell (World.block_lt_of_cell? _ _ k1)).trans k1
       have l2:=(hb2.cell (World.block_lt_of_cell? _ _ k2)).trans k2)
    | (go_at_call 57; refine (hm _).mono ?_; rintro e w3 ⟨rfl,hb3⟩
       have m0:=(hb3.cell (World.block_lt_of_cell? _ _ l0)).trans l0
       have m1:=(hb3.cell (World.block_lt_of_cell? _ _ l1)).trans l1
       have m2:=(hb3.cell (World.block_lt_of_cell? _ _ l2)).trans l2)
    | (go_at_call 74
       first
       | (refine (bufNum (x:=1) (isBuilder_kept (isBuilder_kept hI hb2) hb3) (by have:=hb1.size; have:=hb2.size; have:=hb3.size; simp at *; omega) (put_call put1_sat (by decide)) (by simp)).mono ?_; rintro e w4 ⟨rfl,hI4,hb4,hn4⟩
          have p0:w4.cell? ⟨w.heap.size,0,none⟩=some (.int .i64 0):=(hb4.cell (by simp)).trans m0
          have p2:w4.cell? ⟨w.heap.size,2,none⟩=some (.slice a 0 c):=(hb4.cell (by simp)).trans m2)
       | (refine (bufNum (x:=0) hI4 (by have:=hb1.size; have:=hb2.size; have:=hb3.size; have:=hb4.size; simp at *; omega) (put_call put0_sat (by decide)) (by simp [Lib.byteCells])).mono ?_; rintro e w5 ⟨rfl,hI5,hb5,hn5⟩
          have q2:w5.cell? ⟨w.heap.size,2,none⟩=some (.slice a 0 c):=(hb5.cell (by simp)).trans p2))
    | (go_at_call 180; refine (bufHash0 _ _ _ _).mono ?_; rintro e w6 ⟨rfl,rfl⟩)
    | (go_at_call 33; refine (bufBytes (l:=[1,0]) hI5 (by decide)).mono ?_; rintro e w7 ⟨rfl,hb7⟩))
  refine bodyPost_ret (results_tmp2 rfl _ _ _) rfl ⟨rfl,?_⟩
  have hz1:=hb1.size
  have hz2:=hb2.size
  simp at hz1
  have h1:Below w.heap.size w w1:=((Below.refl _ w).alloc (Nat.le_refl _) _).trans (below_le hb1 (by simp))
  exact ((h1.trans (below_le hb2 (by omega))).trans (below_le hb3 (by omega))).trans ((below_le hb4 (by simp)).trans ((below_le hb5 (by simp)).trans (below_le hb7 (by simp))))
theorem bytes_append (a b:List UInt8):(⟨a.toArray⟩++⟨b.toArray⟩:ByteArray)=⟨(a++b).toArray⟩:=by
  apply ByteArray.ext
  simp
theorem load_cellsL {t:TypeId} {n:Nat} (hs:∀ w,(sizeOf t).run Tryz.prog w=.ok n w) (ha:∀ w,(isAgg t).run Tryz.prog w=.ok true w) {ds:List Value} (hl:ds.length=n) {b o:Nat} {w:World} (h:∀ j v,ds[j]?=some v→w.cell? ⟨b,o+j,none⟩=some v) :
    Sem.run Tryz.prog (Instr.loadAt t (.pointer (some ⟨b,o,none⟩))) w=.ok (.agg ds.toArray) w:=by
  have:=load_row (t:=t) hs ha hl (p:=⟨b,o,none⟩) (w:=w) (fun j v hj=>by rw [add_plain]; exact h j v hj)
  simp [Instr.loadAt,Instr.sureAddr,this]
theorem size26 (w:World):(sizeOf 26).run Tryz.prog w=.ok 3 w:=by kernel_rfl
theorem agg26 (w:World):(isAgg 26).run Tryz.prog w=.ok true w:=by kernel_rfl
theorem size45 (w:World):(sizeOf 45).run Tryz.prog w=.ok 66 w:=by kernel_rfl
theorem agg45 (w:World):(isAgg 45).run Tryz.prog w=.ok true w:=by kernel_rfl
theorem size134 (w:World):(sizeOf 134).run Tryz.prog w=.ok 69 w:=by kernel_rfl
theorem agg134 (w:World):(isAgg 134).run Tryz.prog w=.ok true w:=by kernel_rfl
set_option maxRecDepth 100000 in
set_option maxHeartbeats 1000000 in
theorem stepStep {ds:List Value} (hl:ds.length=69) {i n:Int} {a:Option Addr} {c:Nat} (hd:ds.drop 66=[.int .i64 i,.int .i64 n,.slice a 0 c]) {hb ob:List UInt8} (hlen:hb.length+ob.length≤100000)
    (hop:∀ W:World,Calls Tryz.prog 127 #[.agg #[.int .i64 i,.int .i64 n,.slice a 0 c]] W fun e w'=>e=.returned (.tuple #[.string ⟨ob.toArray⟩,.int .i64 0])∧Below W.heap.size W w')
    (w:World) (hhd:∀ W:World,Below w.heap.size w W→Calls Tryz.prog 27 #[.agg (ds.take 66).toArray] W fun e w'=>e=.returned (.string ⟨hb.toArray⟩)∧Below W.heap.size W w') :
    Calls Tryz.prog 73 #[.agg ds.toArray] w fun e w'=>e=.returned (.tuple #[.string ⟨(hb++ob).toArray⟩,.int .i64 0])∧Below w.heap.size w w':=by
  have Hop:=hid hop
  have Hhd:=hid hhd
  have Hl:=hid hl
  have Hd:=hid hd
  have hn:¬ 9223372036854775807 < hb.length+ob.length:=by omega
  have hcell:∀ (W:World),W.heap[w.heap.size]?=some (.cells ds.toArray 134 (0,0))→∀ j v,ds[j]?=some v→W.cell? ⟨w.heap.size,j,none⟩=some v:=fun W h j v hj=>by simp [World.cell?,h,hj]
  have Hc:=hid hcell
  clear hop hhd hl hd hcell hlen
  go_enter Tryz.func73,Tryz.ntmps73
  go_wp2_with (first
    | (refine wpList_load rfl (t:=26) (x:=.tmp 7) (ptr:=.pointer (some ⟨w.heap.size,66,none⟩)) (v:=.agg #[.int .i64 i,.int .i64 n,.slice a 0 c]) rfl rfl (load_cellsL (ds:=[.int .i64 i,.int .i64 n,.slice a 0 c]) size26 agg26 rfl (fun j v hj=>Hc.out _ (Go.MapKept.heap_alloc w _).1 _ _ (by rw [← Hd.out,List.getElem?_drop] at hj; exact hj))) ?_; go_frame)
    | (go_at_call 127; refine (Hop.out _).mono ?_; rintro e w1 ⟨rfl,hb1⟩
       have hblk:=(hb1.block w.heap.size (by simp)).trans (Go.MapKept.heap_alloc w _).1)
    | (refine wpList_load rfl (t:=45) (x:=.tmp 15) (ptr:=.pointer (some ⟨w.heap.size,0,none⟩)) (v:=.agg (ds.take 66).toArray) rfl rfl (load_cellsL (ds:=ds.take 66) size45 agg45 (by rw [List.length_take,Hl.out]; rfl) (fun j v hj=>by
         have h0:ds[j]?=some v:=by
           rw [List.getElem?_take] at hj
           split at hj
           · exact hj
           · cases hj
         rw [Nat.zero_add]; exact Hc.out _ hblk _ _ h0)) ?_; go_frame)
    | (go_at_call 27; refine (Hhd.out _ (((Below.refl _ w).alloc (Nat.le_refl _) _).trans (below_le hb1 (by simp)))).mono ?_; rintro e w2 ⟨rfl,hb2⟩))
  refine bodyPost_ret (results_tmp2 rfl _ _ _) rfl ⟨by rw [← bytes_append]; rfl,?_⟩
  have hz1:=hb1.size
  simp at hz1
  exact (((Below.refl _ w).alloc (Nat.le_refl _) _).trans (below_le hb1 (by simp))).trans (below_le hb2 (by omega))
theorem step_cells {S:Snap} {ds:List Value} {h:AV} {i n:Int} (hr:Rep S headStep ds (.agg [h,.agg [.int i,.int n,.slice []]])):ds.length=69∧Rep S headT (ds.take 66) h∧∃ a c,ds.drop 66=[.int .i64 i,.int .i64 n,.slice a 0 c]∧c≤maxLen∧(a=none→c=0):=by
  have hl:ds.length=69:=Rep.len _ _ _ hr
  obtain ⟨fs,hx,hs⟩:=hr
  cases hx
  simp only [RepL] at hs
  obtain ⟨y,ys,e,_,h1,h2⟩:=hs
  cases e
  obtain ⟨y,ys,e,_,h3,_⟩:=h2
  cases e
  refine ⟨hl,h1,?_⟩
  have e66:headT.size=66:=rfl
  rw [e66] at h3
  have el:(ds.drop 66).length=3:=by rw [List.length_drop,hl]
  rw [List.take_of_length_le (by rw [el]; exact Nat.le_refl _)] at h3
  obtain ⟨gs,hx,hs⟩:=h3
  cases hx
  simp only [RepL] at hs
  obtain ⟨y,ys,e,_,k1,hs⟩:=hs
  cases e
  obtain ⟨y,ys,e,_,k2,hs⟩:=hs
  cases e
  obtain ⟨y,ys,e,_,k3,_⟩:=hs
  cases e
  match hds:ds.drop 66,el with
  | [x0,x1,x2],_ =>
    rw [hds] at k1 k2 k3
    obtain ⟨_,e1,e1',_⟩:=k1
    obtain ⟨_,e2,e2',_⟩:=k2
    obtain ⟨a,len,c,es,e3,e3',hlen,_,hc,ha,_⟩:=k3
    cases e1'; cases e2'; cases e3'
    simp [Ty.size] at e1 e2 e3 hlen
    subst e1; subst e2; subst e3; subst hlen
    exact ⟨a,c,rfl,hc,ha⟩
theorem step_call {S:Snap} {ds:List Value} {h:AV} {i n:Int} (hr:Rep S headStep ds (.agg [h,.agg [.int i,.int n,.slice []]])) {hb ob:List UInt8} (hlen:hb.length+ob.length≤100000) (hsat:Sat Tryz.prog f27_info 27 [h] ⟨[.str hb],[],false⟩)
    (hop:∀ (a:Option Addr) (c:Nat),c≤maxLen→(a=none→c=0)→∀ W:World,Calls Tryz.prog 127 #[.agg #[.int .i64 i,.int .i64 n,.slice a 0 c]] W fun e w'=>e=.returned (.tuple #[.string ⟨ob.toArray⟩,.int .i64 0])∧Below W.heap.size W w')
    (w:World) (ha:∀ p v,S p=some v→w.cell? p=some v) :
    Calls Tryz.prog 73 #[.agg ds.toArray] w fun e w'=>e=.returned (.tuple #[.string ⟨(hb++ob).toArray⟩,.int .i64 0])∧Below w.heap.size w w':=by
  obtain ⟨hl,h1,a,c,hd,hc,hac⟩:=step_cells hr
  refine stepStep hl hd hlen (hop a c hc hac) w fun W hW=>?_
  exact hsat.str rfl (S:=S) (fun p v hp=>(hW.cell (World.block_lt_of_cell? _ _ (ha p v hp))).trans (ha p v hp)) (vs:=[.agg (ds.take 66).toArray]) ⟨_,_,_,_,rfl,rfl,⟨_,rfl,h1⟩,rfl,rfl,rfl⟩
end Go.Proofs.YtlkkebfjmbfgpaaGreatDoor.Ev

namespace Go.Proofs.YtlkkebfjmbfgpaaGreatDoor.Ev
open Go Go.RowKit Go.Maps
theorem mkfunc (fn:Fn) (first cap:Array Value) (w:World):(Instr.makeFunc fn first cap).run Tryz.prog w=.ok (.func fn first cap) w:=rfl
theorem make22 (W:World):Sem.run Tryz.prog (Instr.makeSlice 22 (.int .i64 0) (.int .i64 2)) W=.ok (.slice (some ⟨W.heap.size,0,none⟩) 0 2) (W.alloc (.cells #[.string ⟨#[]⟩,.string ⟨#[]⟩] 9)):=by kernel_rfl
theorem asWrong (W:World):Sem.run Tryz.prog (Instr.typeAssert .nilIface 20 206 true) W=.ok (.tuple #[.agg #[.int .i64 0],.bool false]) W:=by kernel_rfl
set_option maxRecDepth 100000 in
theorem caughtNone (e:Value) (w:World):Calls Tryz.prog 71 #[.nilIface,e] w fun en w'=>en=.returned (.tuple #[])∧Below w.heap.size w w':=by
  have hw:=asWrong
  go_enter Tryz.func71,Tryz.ntmps71
  go_wp2
  go_end0
  exact ⟨rfl,(Below.refl _ w).alloc (Nat.le_refl _) _⟩
set_option maxRecDepth 100000 in
theorem put1_deferred (e:Value) (w:World):CallsD Tryz.prog 70 #[e] .returning w fun en u' w'=>en=.returned (.tuple #[])∧u'=.returning∧Below w.heap.size w w':=by
  refine callsD_of_wpS Tryz.func70 rfl fun c₀ cs hu=>?_
  apply wpS_region
  simp [wpOpsS,go_sem,recoverD,hu,Tryz.ntmps70]
  refine (caughtNone e w).mono ?_
  rintro en w1 ⟨rfl,hb⟩
  refine ⟨rfl,.returning,?_,_,results_none rfl _ _ _,rfl,rfl,hb⟩
  cases c₀
  simp_all
theorem steps_two {S:Snap} {v:Value} (h:VRep S (.slice headStep) v (.slice wSteps)):∃ pa cap d0 d1,v=.slice (some pa) 2 cap∧S.has pa d0∧S.has (pa.add 69) d1∧d0.length=69∧d1.length=69∧Rep S headStep d0 (.agg [wG,.agg [.int 0,.int 0,.slice []]])∧Rep S headStep d1 (.agg [wB,.agg [.int 0,.int 1,.slice []]]):=by
  obtain ⟨a,len,cp,es,rfl,h2,h3,h4,h5,h6,h7⟩:=h.slice
  cases h2
  have h3':len=2:=by rw [← h3]; rfl
  subst h3'
  cases a with
  | none=>have:=h6 rfl; omega
  | some pa =>
    obtain ⟨d0,k1,k2,k3⟩:=h7 pa rfl 0 _ rfl
    obtain ⟨d1,l1,l2,l3⟩:=h7 pa rfl 1 _ rfl
    refine ⟨pa,cp,d0,d1,rfl,?_,?_,k2,l2,k3,l3⟩
    · have k1':S.has (pa.add (0*69)) d0:=k1
      simpa [Addr.add] using k1'
    · have l1':S.has (pa.add (1*69)) d1:=l1
      simpa using l1'
theorem load_any {t:TypeId} {n:Nat} (hs:∀ w,(sizeOf t).run Tryz.prog w=.ok n w) (ha:∀ w,(isAgg t).run Tryz.prog w=.ok true w) {ds:List Value} (hl:ds.length=n) {p:Addr} {w:World} (h:∀ j v,ds[j]?=some v→w.cell? (p.add j)=some v) :
    Sem.run Tryz.prog (Instr.loadAt t (.pointer (some p))) w=.ok (.agg ds.toArray) w:=by
  simp [Instr.loadAt,Instr.sureAddr,load_row hs ha hl h]
theorem Rep.all_one {S:Snap} {t:Ty} {cs:List Value} {x:AV} (h:Rep S t cs x):(cs.all fun u=>u.oneCell')=true :=
  List.all_eq_true.2 fun v hv=>by
    obtain ⟨j,hj⟩:=List.getElem?_of_mem hv
    exact Rep.one _ _ _ h j v hj
theorem boxed_step {W:World} {ds z:List Value} {base:Nat} {parts:Value} {n:Nat} {xs:List Value} (hrow:W.ownsRow base 9 1 parts n xs) :
    ∃ W1,W1=(W.alloc (.cells z.toArray 134)).setRow W.heap.size ds.toArray∧W1.heap[W.heap.size]?=some (.cells ds.toArray 134 (0,0))∧Below W.heap.size W W1∧W1.ownsRow base 9 1 parts n xs:=by
  refine ⟨_,rfl,setRow_heap _ _ _ _ _ _ (Go.MapKept.heap_alloc W _).1,((Below.refl _ W).alloc (Nat.le_refl _) _).trans (below_setRow _ _ _ (Nat.le_refl _)),?_⟩
  refine hrow.kept (row:=none) ⟨rfl,rfl,rfl,by simp,fun k hk _=>(setRow_other _ _ _ _ (Nat.ne_of_lt hk)).trans ((Go.MapKept.heap_alloc W _).2 k hk)⟩ (by cases hv:parts.ownBlock <;> simp)
set_option maxRecDepth 100000 in
theorem mustOk (w:World):Calls Tryz.prog 72 #[.int .i64 0] w fun en w'=>en=.returned (.tuple #[])∧w'=w:=by
  go_enter Tryz.func72,Tryz.ntmps72
  go_wp2
  go_end0
  exact ⟨rfl,rfl⟩
theorem isBuilder_set {T:TypeId} {B b:Nat} {bs:List Value} {w:World} (h:Lib.IsBuilder T 5 B b bs w) {k i tid:Nat} {cs:Array Value} (he:w.heap[k]?=some (.cells cs tid (0,0))) (ht:tid≠5) (hk:k≠b) (v:Value):Lib.IsBuilder T 5 B b bs (w.setCell ⟨k,i,none⟩ v):=by
  have key:∀ p,Lib.BuilderAt T 5 B b p bs w→Lib.BuilderAt T 5 B b p bs (w.setCell ⟨k,i,none⟩ v):=fun p ⟨h1,x,h2,h3,h4⟩=>by
    refine ⟨h1,x,(setCell_old (fun e=>hk e.symm)).trans h2,h3.kept (grownBy_set w k i v) (Or.inr fun e=>?_),h4⟩
    rcases h3.2 with ⟨rfl,_⟩ | ⟨g,cap,cur,rfl,_,hg,_⟩
    · cases e
    · cases e
      rw [he] at hg
      simp at hg
      exact ht hg.2
  exact h.imp (key _) (key _)
set_option maxRecDepth 100000 in
set_option maxHeartbeats 2000000 in
theorem putTwo {S:Snap} {v:Value} {w:World} {B b:Nat} (hS:∀ p u,S p=some u→w.cell? p=some u) (hlow:∀ p u,S p=some u→p.block < B) (hv:VRep S (.slice headStep) v (.slice wSteps)) (hI:Lib.IsBuilder 139 5 B b [] w) (hBw:B≤w.heap.size) :
    Calls Tryz.prog 32 #[.pointer (some ⟨b,0,none⟩),v] w fun e w'=>e=.returned (.int .i64 0)∧Lib.IsBuilder 139 5 B b (Lib.byteCells wBytes) w'∧Below B w w':=by
  obtain ⟨pa,cap,d0,d1,rfl,k0,k1,l0,l1,r0,r1⟩:=steps_two hv
  have hmf:=mkfunc
  have hmk:=make22
  have HS:=hid hS
  have K0:=hid k0
  have K1:=hid k1
  have L0:=hid l0
  have L1:=hid l1
  have R0:=hid r0
  have R1:=hid r1
  have O0:=hid (Rep.all_one r0)
  have O1:=hid (Rep.all_one r1)
  have HI:=hid hI
  have HC0:=hid (fun (W:World) (hW:Below w.heap.size w W) (j:Nat) (v:Value) (hj:d0[j]?=some v)=>(hW.cell (World.block_lt_of_cell? _ _ (hS _ _ (k0 j v hj)))).trans (hS _ _ (k0 j v hj)))
  have HC1:=hid (fun (W:World) (hW:Below w.heap.size w W) (j:Nat) (v:Value) (hj:d1[j]?=some v)=>(hW.cell (World.block_lt_of_cell? _ _ (hS _ _ (k1 j v hj)))).trans (hS _ _ (k1 j v hj)))
  have HA:=hid (fun (W:World) (hW:Below w.heap.size w W) (p:Addr) (u:Value) (hp:S p=some u)=>(hW.cell (World.block_lt_of_cell? _ _ (hS p u hp))).trans (hS p u hp))
  obtain ⟨i0,hi,hz0,hz1,hz2⟩:=info_parts Tryz.info9
  have HB:=hid hBw
  have Hlow:=hid hlow
  clear hS k0 k1 l0 l1 r0 r1 hI hBw hlow hv
  go_enter_defers Tryz.func32,Tryz.ntmps32
  go_wp2
  have hWa:Below w.heap.size w ((w.alloc (Obj.cells #[.int .i64 0] 34)).alloc (Obj.cells #[.string ⟨#[]⟩,.string ⟨#[]⟩] 9)):=((Below.refl _ w).alloc (Nat.le_refl _) _).alloc (by simp) _
  have hrow0:((w.alloc (Obj.cells #[.int .i64 0] 34)).alloc (Obj.cells #[.string ⟨#[]⟩,.string ⟨#[]⟩] 9)).ownsRow (w.heap.size+1) 9 1 (.slice (some ⟨w.heap.size+1,0,none⟩) 0 2) 0 [] :=
    ⟨rfl,.inr ⟨w.heap.size+1,2,_,rfl,by omega,by have:=(Go.MapKept.heap_alloc (w.alloc (Obj.cells #[.int .i64 0] 34)) (Obj.cells #[.string ⟨#[]⟩,.string ⟨#[]⟩] 9)).1; simpa using this,by omega,by decide,rfl,rfl⟩⟩
  have he0:((w.alloc (Obj.cells #[.int .i64 0] 34)).alloc (Obj.cells #[.string ⟨#[]⟩,.string ⟨#[]⟩] 9)).heap[w.heap.size]?=some (.cells #[.int .i64 0] 34 (0,0)):=((Go.MapKept.heap_alloc _ _).2 _ (by simp)).trans (Go.MapKept.heap_alloc w _).1
  have hza:w.heap.size+2=((w.alloc (Obj.cells #[.int .i64 0] 34)).alloc (Obj.cells #[.string ⟨#[]⟩,.string ⟨#[]⟩] 9)).heap.size:=by simp
  generalize hWn:((w.alloc (Obj.cells #[.int .i64 0] 34)).alloc (Obj.cells #[.string ⟨#[]⟩,.string ⟨#[]⟩] 9))=Wa at *
  clear hWn
  have Hza:=hid hza
  clear hza
  refine wp_loop_rounds 3 ?_
  rw [rounds_succ]
  go_wp2_with (first
    | (refine wpList_load rfl (t:=134) (x:=.tmp 22) (ptr:=.pointer (some pa)) (v:=.agg d0.toArray) rfl rfl (load_any size134 agg134 L0.out (HC0.out _ hWa)) ?_; go_frame)
    | (refine wpList_store rfl (t:=134) (x:=.tmp 7) (y:=.tmp 23) rfl rfl rfl (store_row size134 (ds:=d0) L0.out O0.out (Go.MapKept.heap_alloc Wa _).1 rfl) ?_; go_frame
       obtain ⟨W1,hW1,hb1,hB1,hrow1⟩:=boxed_step (ds:=d0) hrow0
       rw [← hW1]
       clear hW1
       have hX1:Below w.heap.size w W1:=hWa.trans (below_le hB1 hWa.size))
    | (refine wpList_load rfl (t:=134) (x:=.tmp 7) (ptr:=.pointer (some ⟨Wa.heap.size,0,none⟩)) (v:=.agg d0.toArray) rfl rfl (load_any size134 agg134 L0.out (cells_add hb1)) ?_; go_frame)
    | (go_at_call 73; refine (step_call R0.out (by decide) headG_sat opening0 W1 (HA.out _ hX1)).mono ?_; rintro e W2 ⟨rfl,hb2⟩
       have hrow2:=hrow1.kept (grownBy_of_below hb2 none) (by cases hv:Value.ownBlock _ <;> simp)
       have hY2:Below (w.heap.size+1) Wa W2:=(below_le hB1 (by have:=Hza.out; omega)).trans (below_le hb2 (by have:=Hza.out; have:=hB1.size; omega)))
    | (go_at_call 72; refine (mustOk _).mono ?_; rintro e W3 ⟨rfl,rfl⟩)
    | (at_builtin; refine wpList_append_own _ rfl _ _ 22 rfl (w.heap.size+1) 9 i0 (.string ⟨#[]⟩) 1 16 Tryz.underlying22 hi hz0 hz1 hz2 rfl (by decide) _ _ _ rfl (hrow2.alloc _) ⟨_,0,none⟩ 1 1 [.string ⟨(hbG++[0]).toArray⟩] rfl rfl (cell_one_new _ _ _) (by simp [Value.oneCell']) (by decide) (by decide) (by have:=hY2.size; have:=Hza.out; simp; omega) ?_; intro v' W4 hrow4 hg4 hnil4; go_frame))
  have hZ4:Below (w.heap.size+1) Wa W4:=(hY2.alloc (by have:=hY2.size; have:=Hza.out; omega) _).grown hg4 (by have:=hY2.size; have:=Hza.out; simp; omega) (fun k hk=>(hrow2.lt k hk).1)
  have hWd:Below w.heap.size w W4:=hWa.trans (below_le hZ4 (by omega))
  have hz4:w.heap.size+2≤W4.heap.size:=by have:=hZ4.size; have:=Hza.out; omega
  have Hz4:=hid hz4
  clear hz4 hb1 hB1 hrow1 hX1 hb2 hrow2 hY2 hg4 hnil4
  rw [rounds_succ]
  go_wp2_with (first
    | (refine wpList_load rfl (t:=134) (x:=.tmp 22) (ptr:=.pointer (some (pa.add 69))) (v:=.agg d1.toArray) rfl rfl (load_any size134 agg134 L1.out (HC1.out _ hWd)) ?_; go_frame)
    | (refine wpList_store rfl (t:=134) (x:=.tmp 7) (y:=.tmp 23) rfl rfl rfl (store_row size134 (ds:=d1) L1.out O1.out (Go.MapKept.heap_alloc W4 _).1 rfl) ?_; go_frame
       obtain ⟨W5,hW5,hb5,hB5,hrow5⟩:=boxed_step (ds:=d1) hrow4
       rw [← hW5]
       clear hW5
       have hX5:Below w.heap.size w W5:=hWd.trans (below_le hB5 hWd.size))
    | (refine wpList_load rfl (t:=134) (x:=.tmp 7) (ptr:=.pointer (some ⟨W4.heap.size,0,none⟩)) (v:=.agg d1.toArray) rfl rfl (load_any size134 agg134 L1.out (cells_add hb5)) ?_; go_frame)
    | (go_at_call 73; refine (step_call R1.out (by decide) headB_sat opening1 W5 (HA.out _ hX5)).mono ?_; rintro e W6 ⟨rfl,hb6⟩
       have hrow6:=hrow5.kept (grownBy_of_below hb6 none) (by cases hv:Value.ownBlock _ <;> simp)
       have hY6:Below (w.heap.size+1) W4 W6:=(below_le hB5 (by have:=Hz4.out; omega)).trans (below_le hb6 (by have:=Hz4.out; have:=hB5.size; omega)))
    | (go_at_call 72; refine (mustOk _).mono ?_; rintro e W7 ⟨rfl,rfl⟩)
    | (at_builtin; refine wpList_append_own _ rfl _ _ 22 rfl (w.heap.size+1) 9 i0 (.string ⟨#[]⟩) 1 16 Tryz.underlying22 hi hz0 hz1 hz2 rfl (by decide) _ _ _ rfl (hrow6.alloc _) ⟨_,0,none⟩ 1 1 [.string ⟨(hbB++[1,0]).toArray⟩] rfl rfl (cell_one_new _ _ _) (by simp [Value.oneCell']) (by decide) (by decide) (by have:=hY6.size; have:=Hz4.out; simp; omega) ?_; intro v8 W8 hrow8 hg8 hnil8; go_frame))
  have hZ8:Below (w.heap.size+1) W4 W8:=(hY6.alloc (by have:=hY6.size; have:=Hz4.out; omega) _).grown hg8 (by have:=hY6.size; have:=Hz4.out; simp; omega) (fun k hk=>(hrow6.lt k hk).1)
  have hWe:Below w.heap.size w W8:=hWd.trans (below_le hZ8 (by omega))
  have hz8:w.heap.size+2≤W8.heap.size:=by have:=hZ8.size; have:=Hz4.out; omega
  have he8:W8.heap[w.heap.size]?=some (.cells #[.int .i64 0] 34 (0,0)):=(hZ8.block _ (by omega)).trans ((hZ4.block _ (by omega)).trans he0)
  obtain ⟨g8,c8,cur8,rfl,hgb8,hgh8,hcells8⟩:∃ g8 c8 cur8,v8=.slice (some ⟨g8,0,none⟩) 2 c8∧w.heap.size+1≤g8∧W8.heap[g8]?=some (.cells cur8 9 (0,0))∧∀ (j:Nat) t,[(⟨(hbG++[0]).toArray⟩:ByteArray),⟨(hbB++[1,0]).toArray⟩][j]?=some t→cur8[j]?=some (.string t):=by
    rcases hrow8.2 with ⟨_,h⟩ | ⟨g',cap',cur,hv,hbase,hb,h1,h2,h3,h4⟩
    · cases h
    · refine ⟨g',cap',cur,hv,hbase,hb,fun j t hj=>?_⟩
      have h5:=congrArg (fun l=>l[j]?) h4
      simp only [List.getElem?_take] at h5
      match j,hj with
      | 0,hj=>cases hj; simpa using h5
      | 1,hj=>cases hj; simpa using h5
  have Hz8:=hid hz8
  have Hc8:=hid hcells8
  clear hz8 hb5 hB5 hrow5 hX5 hb6 hrow6 hY6 hg8 hnil8 hcells8 hrow4 hrow8 hrow0
  rw [rounds_succ]
  have hb0:b < w.heap.size:=by rcases HI.out with h | h <;> exact h.lt
  have hIe:=hid (isBuilder_kept HI.out hWe)
  have hBe:=hid (Nat.le_trans HB.out hWe.size)
  go_wp2_with (first
    | (go_at_call 74; refine (bufNum hIe.out hBe.out (put_call put2_sat (by decide)) (by decide)).mono ?_; rintro e W9 ⟨rfl,hI9,hb9,hn9⟩
       have he9:W9.heap[w.heap.size]?=some (.cells #[.int .i64 0] 34 (0,0)):=(hn9.2 _ (by have:=Hz8.out; omega) (by omega) (fun cur e=>by rw [he8] at e; simp at e)).trans he8
       have hg9:W9.heap[g8]?=some (.cells cur8 9 (0,0)):=(hn9.2 _ (Array.getElem?_eq_some_iff.1 hgh8).1 (by omega) (fun cur e=>by rw [hgh8] at e; simp at e)).trans hgh8)
    | (go_at_call 75; refine (Tryz.bufRaw B b g8 c8 [⟨(hbG++[0]).toArray⟩,⟨(hbB++[1,0]).toArray⟩] _ W9 hI9 (Nat.le_trans hBe.out hb9.size) 9 cur8 hg9 (by decide) (by omega) Hc8.out (fun k hk=>by
         match k,hk with
         | 0,_=>decide
         | 1,_=>decide
         | 2,_=>decide) (by decide)).mono ?_; rintro e W10 ⟨rfl,hI10,hb10,hn10⟩
       have he10:W10.heap[w.heap.size]?=some (.cells #[.int .i64 0] 34 (0,0)):=(hn10.2 _ (Array.getElem?_eq_some_iff.1 he9).1 (by omega) (fun cur e=>by rw [he9] at e; simp at e)).trans he9
       have hc10:W10.cell? ⟨w.heap.size,0,none⟩=some (.int .i64 0):=by simp [World.cell?,he10]
       have hf10:W10.frozen? ⟨w.heap.size,0,none⟩=false:=Lib.frozen_of_heap he10 0))
  refine leaves_cons (f:=70) (args:=#[.pointer (some ⟨w.heap.size,0,none⟩)]) (by simp) (by simp [go_sem]) ?_
  refine (put1_deferred _ _).mono ?_
  rintro en u' w' ⟨rfl,rfl,hbD⟩
  have hI11:=isBuilder_set hI10 (i:=0) he10 (by decide) (by omega) (.int .i64 0)
  have hI12:=isBuilder_kept hI11 hbD
  have hc12:w'.cell? ⟨w.heap.size,0,none⟩=some (.int .i64 0):=(hbD.cell (by simpa using (Array.getElem?_eq_some_iff.1 he10).1)).trans (World.cell?_setCell_same _ _ _ hc10)
  refine ⟨.int .i64 0,?_,rfl,?_,?_⟩
  · simp [results,Tryz.results32,go_sem,hc12]
  · have e:[]++Lib.byteCells [2]++List.flatMap Lib.strCells [⟨(hbG++[0]).toArray⟩,⟨(hbB++[1,0]).toArray⟩]=Lib.byteCells wBytes:=by
      rw [← bytes_split]
      simp [Lib.byteCells,Lib.strCells]
    rw [e] at hI12
    exact hI12
  · have h1:Below B w W10:=((below_le hWe HB.out).trans hb9).trans hb10
    have h2:Below B W10 (W10.setCell ⟨w.heap.size,0,none⟩ (.int .i64 0)):=(Below.refl B W10).setCell (p:=⟨w.heap.size,0,none⟩) HB.out _
    exact (h1.trans h2).trans (below_le hbD (Nat.le_trans HB.out (h1.trans h2).size))
set_option maxRecDepth 100000 in
theorem encodeTwo {S:Snap} {v:Value} {w:World} (hS:∀ p u,S p=some u→w.cell? p=some u) (hv:VRep S (.slice headStep) v (.slice wSteps)) :
    Calls Tryz.prog 14 #[v] w fun e w'=>e=.returned (.tuple #[.string ⟨wBytes.toArray⟩,.int .i64 0])∧Below w.heap.size w w':=by
  have HS:=hid hS
  have Hv:=hid hv
  clear hS hv
  go_enter Tryz.func14,Tryz.ntmps14
  go_wp2_with (first
    | (go_at_call 31; refine (Tryz.bufNew _).mono ?_; rintro e w1 ⟨rfl,hI,hb1⟩)
    | (go_at_call 32; refine (putTwo (fun p u hp=>(hb1.cell (World.block_lt_of_cell? _ _ (HS.out p u hp))).trans (HS.out p u hp)) (fun p u hp=>World.block_lt_of_cell? _ _ (HS.out p u hp)) Hv.out hI hb1.size).mono ?_; rintro e w2 ⟨rfl,hI2,hb2⟩)
    | (go_at_call 33; refine (bufBytes hI2 (by decide)).mono ?_; rintro e w3 ⟨rfl,hb3⟩))
  exact bodyPost_ret (results_tmp2 rfl _ _ _) rfl ⟨rfl,(hb1.trans hb2).trans hb3⟩
end Go.Proofs.YtlkkebfjmbfgpaaGreatDoor.Ev

namespace Go.Proofs.YtlkkebfjmbfgpaaGreatDoor.Ev
open Go Go.RowKit Go.Maps Go.WideMaps Go.Sort
theorem hid {p:Prop} (h:p):Hid p:=h
theorem Sat.owned {i:FnInfo} {f:FuncId} {xs:List AV} {es:List AV} {e:Ty} (hs:Sat Tryz.prog i f xs ⟨[.slice es],[],true⟩) (hr:i.results=[.val (.slice e)]) {S:Snap} {w:World} {vs:List Value}
    (ha:∀ p v,S p=some v→w.cell? p=some v) (hargs:ArgsRel S w i.params vs xs []) :
    Calls Tryz.prog f vs.toArray w fun en w'=>∃ S' v,en=.returned v∧S.le S'∧(∀ p u,S' p=some u→S p=some u∨w.heap.size≤p.block)∧(∀ p u,S' p=some u→w'.cell? p=some u)∧VRep S' (.slice e) v (.slice es)∧OwnRow w.heap.size S' w' v e.size∧Below w.heap.size w w':=by
  refine (hs S w vs [] ha hargs (by simp)).mono ?_
  rintro en w' ⟨S',v,rfl,h1,h2,h3,hk,hres,_⟩
  rw [hr] at hres
  obtain ⟨x',hx,hv,ho⟩:=hres
  cases hx
  obtain ⟨e',he,ho⟩:=ho rfl
  cases he
  exact ⟨S',v,rfl,h1,h2,h3,hv,ho,keep_nil_below hk⟩
theorem wins_one {S:Snap} {w:World} {u:Value} (ha:∀ p v,S p=some v→w.cell? p=some v) (hu:VRep S (.slice (.slice (.int .i64))) u (.slice [.slice [.int 0]])) :
    Calls Tryz.prog 89 #[u] w fun e w'=>∃ b c,e=.returned (.slice (some ⟨b,0,none⟩) 1 c)∧w'.cell? ⟨b,0,none⟩=some (.int .i64 0)∧Below w.heap.size w w':=by
  refine (wins_sat.owned rfl ha (vs:=[u]) ⟨_,_,_,_,rfl,rfl,hu,rfl,rfl,rfl⟩).mono ?_
  rintro e w' ⟨S',v,rfl,_,_,ha',hv,ho,hb⟩
  rcases ho with rfl | ⟨g,n,cap,cs,rfl,_,_,_,_,_,_⟩
  · obtain ⟨a,len,cp,es,h1,h2,h3,_⟩:=hv.slice
    cases h1; cases h2; cases h3
  · obtain ⟨a,len,cp,es,h1,h2,h3,h4,h5,h6,h7⟩:=hv.slice
    cases h1; cases h2; cases h3
    obtain ⟨ds,k1,k2,k3⟩:=h7 _ rfl 0 _ rfl
    obtain ⟨m,rfl,e2,_⟩:=k3
    cases e2
    refine ⟨g,_,rfl,?_,hb⟩
    have:=ha' _ _ (k1 0 _ rfl)
    simpa [Addr.add] using this
theorem id_of_b {S:Snap} {w:World} {hd:List Value} (ha:∀ p v,S p=some v→w.cell? p=some v) (hr:Rep S headT hd wB) :
    Calls Tryz.prog 12 #[.agg hd.toArray] w fun e w'=>e=.returned (.agg (wIdb.map byteV).toArray)∧Below w.heap.size w w':=by
  refine (dn8_sat.one rfl ha (vs:=[.agg hd.toArray]) ⟨_,_,_,_,rfl,rfl,⟨hd,rfl,hr⟩,rfl,rfl,rfl⟩).mono ?_
  rintro e w' ⟨S',v,rfl,_,_,ha',hv,hb⟩
  obtain ⟨cs,rfl,s,_,rfl,h3⟩:=hv
  cases h3
  exact ⟨rfl,hb⟩
theorem steps_head {S:Snap} {v:Value} (h:VRep S (.slice headStep) v (.slice wSteps)):∃ pa cap ds,v=.slice (some pa) 2 cap∧S.has (pa.add 69) ds∧ds.length=69∧Rep S headT (ds.take 66) wB:=by
  obtain ⟨a,len,cp,es,rfl,h2,h3,h4,h5,h6,h7⟩:=h.slice
  cases h2
  have h3':len=2:=by rw [← h3]; rfl
  subst h3'
  cases a with
  | none=>have:=h6 rfl; omega
  | some pa =>
    obtain ⟨ds,k1,k2,k3⟩:=h7 pa rfl 1 _ rfl
    refine ⟨pa,cp,ds,rfl,by have k1':S.has (pa.add (1*69)) ds:=k1; simpa using k1',k2,?_⟩
    obtain ⟨fs,hx,hl⟩:=k3
    cases hx
    simp only [RepL] at hl
    obtain ⟨y,ys,e,_,h1,_⟩:=hl
    cases e
    exact h1
theorem field101a (x y z:Value) (W:World):Sem.run Tryz.prog (Instr.field 101 (.agg #[x,y,z]) 0) W=.ok x W:=by kernel_rfl
set_option maxRecDepth 100000 in
set_option maxHeartbeats 1000000 in
theorem best1 {cs:List Value} (hl:cs.length=104) {w:World} {p q m ms n n2:Nat} {room:Int} {D:DataW Unit} {E:DataW Value} (hs:SessAt w cs p q m ms n n2 room D E)
    {bytes:List UInt8} (hbl:bytes.length≤maxLen) (hkeys:strKeys D=[bytes]) (hsz:Maps.size D≤1) {v:Value} {a2 a3:Option Addr} {l2 c2 l3 c3:Nat} (hE:∀ zd,E.atKey (.string bytes) zd=.held (.agg #[v,.slice a2 l2 c2,.slice a3 l3 c3]))
    {S:Snap} (hS:∀ p u,S p=some u→w.cell? p=some u) (hv:VRep S (.slice headStep) v (.slice wSteps)) (hside:VRep S sideT (.agg #[.slice a2 l2 c2,.slice a3 l3 c3]) wSide) (hM:cs[98]?=some (.int .i64 1)) :
    Calls Tryz.prog 40 #[.pointer (some ⟨p,0,none⟩)] w fun e w'=>e=.returned (.tuple #[.agg (bestCells ⟨bytes.toArray⟩ wIdb 0 1).toArray,.nilIface])∧Below w.heap.size w w':=by
  have hall:∀ (S:Snap) (W:World) (x:Value),(∀ p u,S p=some u→W.cell? p=some u)→VRep S (.slice sideT) x (.slice [wSide])→Calls Tryz.prog 147 #[x,.int .i64 1] W fun e w'=>∃ S' u,e=.returned u∧S.le S'∧(∀ p u,S' p=some u→S p=some u∨W.heap.size≤p.block)∧(∀ p u,S' p=some u→w'.cell? p=some u)∧VRep S' (.slice (.slice (.int .i64))) u (.slice [.slice [.int 0]])∧Below W.heap.size W w':=fun S W x ha hx =>
    all_sat.one rfl ha (vs:=[x,.int .i64 1]) ⟨_,_,_,_,rfl,rfl,hx,_,_,_,_,rfl,rfl,VRep.int_mk (by decide),rfl,rfl,rfl⟩
  have hp0:p < w.heap.size:=(Array.getElem?_eq_some_iff.1 hs.sess).1
  have Hv:=hid (verdicts1 hl (hs.kept ((Below.refl _ w).alloc (Nat.le_refl _) (.cells (zero64).toArray 64))) hbl hkeys hsz hE (S:=S) (fun p' u' h'=>(World.cell?_alloc_lt _ _ _ (World.block_lt_of_cell? _ _ (hS p' u' h'))).trans (hS p' u' h')) hside hM hall)
  have Hs:Hid _:=hs
  have Hl:Hid _:=hl
  have HS:Hid _:=hS
  have Hst:Hid _:=steps_head hv
  have Hr:Hid _:=And.intro hE hbl
  clear hall hside hM hkeys hE hbl hsz hv hS hl hs
  go_enter Tryz.func40,Tryz.ntmps40
  go_wp2_with (first
    | (go_at_call 87; refine Hv.out.mono ?_; rintro e w1 ⟨S1,g,c,u,rfl,hc,hk1,hg,le1,new1,ha1,hu,hb1⟩)
    | (go_at_call 88; refine (Tryz.winner1 g c ⟨bytes.toArray⟩ u w1 hk1 (wins_one ha1 hu)).mono ?_; rintro e w2 ⟨rfl,hb2⟩))
  obtain ⟨pa,vc,ds,rfl,hds,hdl,hrep⟩:=Hst.out
  have hz0:w.heap.size+1≤w1.heap.size:=by have:=hb1.size; simpa using this
  have hz1:w1.heap.size≤w2.heap.size:=hb2.size
  have hB2:Below (w.heap.size+1) (w.alloc (Obj.cells zero64.toArray 64)) w2:=(below_le hb1 (by simp)).trans (below_le hb2 hz0)
  have hBw:Below w.heap.size w w2:=((Below.refl _ w).alloc (Nat.le_refl _) _).trans (below_le hB2 (by omega))
  have hs2:=hid (Hs.out.kept hBw)
  have hblk:w2.heap[w.heap.size]?=some (.cells zero64.toArray 64 (0,0)):=(hB2.block w.heap.size (by omega)).trans (Go.MapKept.heap_alloc w _).1
  have hk2:w2.cell? ⟨g,0,none⟩=some (.string ⟨bytes.toArray⟩):=(hb2.cell (World.block_lt_of_cell? _ _ hk1)).trans hk1
  have hlk:∀ W:World,W.ownsMap Tryz.prog 9 heldR ms n2 E→(Instr.lookup 89 (.map (some ms)) (.string ⟨bytes.toArray⟩) false).run Tryz.prog W=.ok (.agg #[.slice (some pa) 2 vc,.slice a2 l2 c2,.slice a3 l3 c3]) W:=fun W hW=>by
    obtain ⟨x,xp,hlook,hx⟩:=hW.lookup Tryz.keyed9 Tryz.under89 (Tryz.zero101 W) (zd:=.held (.agg #[.slice none 0 0,.slice none 0 0,.slice none 0 0])) (zp:=[]) rfl (keyOf_string_mk Tryz.under9 (s:=⟨bytes.toArray⟩) (show bytes.length≤_ from Hr.out.2))
    rw [show (⟨bytes.toArray⟩:ByteArray).data.toList=bytes from rfl,Hr.out.1] at hx
    obtain rfl:x=.agg #[.slice (some pa) 2 vc,.slice a2 l2 c2,.slice a3 l3 c3]:=by
      have h1:=congrArg (fun o=>o.map Prod.fst) hx
      simpa [heldR] using h1
    exact hlook
  have Hlk:=hid hlk
  clear hlk
  have ct2:=(sess_tail Hl.out hs2.out.sess).2
  have hown2:w2.ownsMap Tryz.prog 9 heldR ms n2 E:=hs2.out.owns
  refine wp_region_held_drew (S:=fun W=>W.cell? ⟨p,105,none⟩=some (.map (some ms))∧W.cell? ⟨g,0,none⟩=some (.string ⟨bytes.toArray⟩)∧W.ownsMap Tryz.prog 9 heldR ms n2 E) (by kernel_rfl) ⟨ct2,hk2,hown2.drew⟩ fun hS=>?_
  refine wpAnyH_take (i:=0) (v:=.pointer (some ⟨p,0,none⟩)) (fuel:=10) rfl (by kernel_rfl) (by kernel_rfl) (by kernel_rfl) (fun _ _ _ h=>h) (.inl ⟨rfl,fun W hW=>by go_simp⟩) hS ?_
  refine wpAnyH_take (i:=1) (v:=.pointer (some ⟨p,0,none⟩)) (fuel:=9) rfl (by kernel_rfl) (by kernel_rfl) (by kernel_rfl) (fun _ _ _ h=>h) (.inl ⟨rfl,fun W hW=>by go_simp⟩) hS ?_
  refine wpAnyH_take (i:=2) (v:=.pointer (some ⟨p,105,none⟩)) (fuel:=8) rfl (by kernel_rfl) (by kernel_rfl) (by kernel_rfl) (fun _ _ _ h=>h) (.inl ⟨rfl,fun W hW=>by go_simp⟩) hS ?_
  refine wpAnyH_take (i:=3) (v:=.map (some ms)) (fuel:=7) rfl (by kernel_rfl) (by kernel_rfl) (by kernel_rfl) (fun _ _ _ h=>h) (.inl ⟨rfl,fun W hW=>by have h1:=hW.1; go_simp⟩) hS ?_
  refine wpAnyH_take (i:=4) (v:=.slice (some ⟨g,0,none⟩) 1 c) (fuel:=6) rfl (by kernel_rfl) (by kernel_rfl) (by kernel_rfl) (fun _ _ _ h=>h) (.inl ⟨rfl,fun W hW=>by go_simp⟩) hS ?_
  refine wpAnyH_take (i:=5) (v:=.int .i64 0) (fuel:=5) rfl (by kernel_rfl) (by kernel_rfl) (by kernel_rfl) (fun _ _ _ h=>h) (.inl ⟨rfl,fun W hW=>by go_simp⟩) hS ?_
  refine wpAnyH_take (i:=6) (v:=.pointer (some ⟨g,0,none⟩)) (fuel:=4) rfl (by kernel_rfl) (by kernel_rfl) (by kernel_rfl) (fun _ _ _ h=>h) (.inl ⟨rfl,fun W hW=>by go_simp⟩) hS ?_
  refine wpAnyH_take (i:=7) (v:=.string ⟨bytes.toArray⟩) (fuel:=3) rfl (by kernel_rfl) (by kernel_rfl) (by kernel_rfl) (fun _ _ _ h=>h) (.inl ⟨rfl,fun W hW=>by have h1:=hW.2.1; go_simp⟩) hS ?_
  refine wpAnyH_take (i:=8) (v:=.agg #[.slice (some pa) 2 vc,.slice a2 l2 c2,.slice a3 l3 c3]) (fuel:=2) rfl (by kernel_rfl) (by kernel_rfl) (by kernel_rfl) (fun _ _ _ h=>h) (.inl ⟨rfl,fun W hW=>by have h1:=Hlk.out W hW.2.2; go_simp⟩) hS ?_
  refine wpAnyH_take (i:=9) (v:=.slice (some pa) 2 vc) (fuel:=1) rfl (by kernel_rfl) (by kernel_rfl) (by kernel_rfl) (fun _ _ _ h=>h) (.inl ⟨rfl,fun W hW=>by have h1:=field101a (.slice (some pa) 2 vc) (.slice a2 l2 c2) (.slice a3 l3 c3) W; go_simp⟩) hS ?_
  refine wpAnyH_take (i:=10) (v:=.slice (some pa) 2 vc) (fuel:=0) rfl (by kernel_rfl) (by kernel_rfl) (by kernel_rfl) (fun _ _ _ h=>h) (.inl ⟨rfl,fun W hW=>by go_simp⟩) hS ?_
  refine wpAnyH_done (by kernel_rfl) ?_ _
  go_simp
  go_wp2
  have hlt:∀ p u,S p=some u→p.block < w.heap.size:=fun p' u' h'=>World.block_lt_of_cell? _ _ (HS.out p' u' h')
  have hhd:∀ W:World,Below w.heap.size w W→∀ j v,(ds.take 66)[j]?=some v→W.cell? ((pa.add 69).add j)=some v:=fun W hW j v hj=>by
    have h0:ds[j]?=some v:=by
      rw [List.getElem?_take] at hj
      split at hj
      · exact hj
      · cases hj
    have h1:=hds j v h0
    exact (hW.cell (hlt _ _ h1)).trans (HS.out _ _ h1)
  have Hhd:=hid hhd
  clear hhd
  refine wp_region_held_drew (S:=fun W=>W.cell? ⟨g,0,none⟩=some (.string ⟨bytes.toArray⟩)∧Below w.heap.size w W∧∃ cs0:Array Value,W.heap[w.heap.size]?=some (.cells cs0 64 (0,0))∧cs0.size=35) (by kernel_rfl) ⟨hk2,hBw.trans ((below_drew _ _).trans (below_drew _ _)),_,hblk,rfl⟩ fun hS=>?_
  refine wpAnyH_take (i:=0) (v:=.slice (some ⟨g,0,none⟩) 1 c) (fuel:=21) rfl (by kernel_rfl) (by kernel_rfl) (by kernel_rfl) (fun _ _ _ h=>h) (.inl ⟨rfl,fun W hW=>by go_simp⟩) hS ?_
  refine wpAnyH_take (i:=1) (v:=.int .i64 0) (fuel:=20) rfl (by kernel_rfl) (by kernel_rfl) (by kernel_rfl) (fun _ _ _ h=>h) (.inl ⟨rfl,fun W hW=>by go_simp⟩) hS ?_
  refine wpAnyH_take (i:=2) (v:=.pointer (some ⟨g,0,none⟩)) (fuel:=19) rfl (by kernel_rfl) (by kernel_rfl) (by kernel_rfl) (fun _ _ _ h=>h) (.inl ⟨rfl,fun W hW=>by go_simp⟩) hS ?_
  refine wpAnyH_take (i:=3) (v:=.string ⟨bytes.toArray⟩) (fuel:=18) rfl (by kernel_rfl) (by kernel_rfl) (by kernel_rfl) (fun _ _ _ h=>h) (.inl ⟨rfl,fun W hW=>by have h1:=hW.1; go_simp⟩) hS ?_
  refine wpAnyH_take (i:=4) (v:=.slice (some pa) 2 vc) (fuel:=17) rfl (by kernel_rfl) (by kernel_rfl) (by kernel_rfl) (fun _ _ _ h=>h) (.inl ⟨rfl,fun W hW=>by go_simp⟩) hS ?_
  refine wpAnyH_take (i:=5) (v:=.slice (some pa) 2 vc) (fuel:=16) rfl (by kernel_rfl) (by kernel_rfl) (by kernel_rfl) (fun _ _ _ h=>h) (.inl ⟨rfl,fun W hW=>by go_simp⟩) hS ?_
  refine wpAnyH_take (i:=6) (v:=.int .i64 2) (fuel:=15) rfl (by kernel_rfl) (by kernel_rfl) (by kernel_rfl) (fun _ _ _ h=>h) (.inl ⟨rfl,fun W hW=>by go_simp⟩) hS ?_
  refine wpAnyH_take (i:=7) (v:=.int .i64 1) (fuel:=14) rfl (by kernel_rfl) (by kernel_rfl) (by kernel_rfl) (fun _ _ _ h=>h) (.inl ⟨rfl,fun W hW=>by go_simp; rfl⟩) hS ?_
  refine wpAnyH_take (i:=8) (v:=.pointer (some (pa.add 69))) (fuel:=13) rfl (by kernel_rfl) (by kernel_rfl) (by kernel_rfl) (fun _ _ _ h=>h) (.inl ⟨rfl,fun W hW=>by go_simp⟩) hS ?_
  refine wpAnyH_take (i:=9) (v:=.pointer (some (pa.add 69))) (fuel:=12) rfl (by kernel_rfl) (by kernel_rfl) (by kernel_rfl) (fun _ _ _ h=>h) (.inl ⟨rfl,fun W hW=>by go_simp⟩) hS ?_
  refine wpAnyH_take (i:=10) (v:=.agg (ds.take 66).toArray) (fuel:=11) rfl (by kernel_rfl) (by kernel_rfl) (by kernel_rfl) (fun _ _ _ h=>h) (.inl ⟨rfl,fun W hW=>exec_load (t:=45) (x:=.tmp 41) (ptr:=.pointer (some (pa.add 69))) (by kernel_rfl) (by kernel_rfl) (by have:=run_loadVar (w:=W) (types2_ok.ty 45 headT (by kernel_rfl)) (pa.add 69) (ds.take 66) (by simp [hdl,headT,Ty.size,Ty.sizeL]) (Hhd.out W hW.2.1); simp [Instr.loadAt,Instr.sureAddr,this,Ty.val,Ty.isAgg,headT])⟩) hS ?_
  refine wpAnyH_take (i:=12) (v:=u) (fuel:=10) rfl (by kernel_rfl) (by kernel_rfl) (by kernel_rfl) (fun _ _ _ h=>h) (.inl ⟨rfl,fun W hW=>by go_simp⟩) hS ?_
  refine wpAnyH_take (i:=14) (v:=.int .i64 0) (fuel:=9) rfl (by kernel_rfl) (by kernel_rfl) (by kernel_rfl) (fun _ _ _ h=>h) (.inl ⟨rfl,fun W hW=>by go_simp⟩) hS ?_
  refine wpAnyH_take (i:=17) (v:=.slice (some ⟨g,0,none⟩) 1 c) (fuel:=8) rfl (by kernel_rfl) (by kernel_rfl) (by kernel_rfl) (fun _ _ _ h=>h) (.inl ⟨rfl,fun W hW=>by go_simp⟩) hS ?_
  refine wpAnyH_take (i:=18) (v:=.int .i64 1) (fuel:=7) rfl (by kernel_rfl) (by kernel_rfl) (by kernel_rfl) (fun _ _ _ h=>h) (.inl ⟨rfl,fun W hW=>by go_simp⟩) hS ?_
  refine wpAnyH_ready (rs:=[11]) (by kernel_rfl) (by simp) ?_
  refine AllReadyH.cons rfl (fun K hK=>?_) AllReadyH.nil
  rw [if_pos (by kernel_rfl)]
  go_simp
  obtain ⟨hS1,hS2,cs0,hS3,hcs⟩:=hS
  refine (id_of_b (S:=S) (fun p' u' h'=>(hS2.cell (hlt p' u' h')).trans (HS.out p' u' h')) hrep).mono ?_
  rintro e w3 ⟨rfl,hb3⟩
  have hzd:w2.drew.drew.heap.size=w2.heap.size:=rfl
  have hz3:w2.heap.size≤w3.heap.size:=hb3.size
  have hB3:Below w.heap.size w w3:=hS2.trans (below_le hb3 hS2.size)
  have hk3:w3.cell? ⟨g,0,none⟩=some (.string ⟨bytes.toArray⟩):=(hb3.cell (World.block_lt_of_cell? _ _ hS1)).trans hS1
  have hblk3:w3.heap[w.heap.size]?=some (.cells cs0 64 (0,0)):=(hb3.block _ (Array.getElem?_eq_some_iff.1 hS3).1).trans hS3
  refine hK _ _ ⟨hk3,hB3,cs0,hblk3,hcs⟩ fun _=>?_
  clear hK K
  refine wpAnyH_ready (rs:=[13]) (by kernel_rfl) (by simp) ?_
  refine AllReadyH.cons rfl (fun K hK=>?_) AllReadyH.nil
  rw [if_pos (by kernel_rfl)]
  go_simp
  have ha3:∀ p u,S1 p=some u→w3.cell? p=some u:=fun p' u' h'=>by
    have h1:=ha1 p' u' h'
    have h2:w2.cell? p'=some u':=(hb2.cell (World.block_lt_of_cell? _ _ h1)).trans h1
    exact (hb3.cell (World.block_lt_of_cell? _ _ (show w2.drew.drew.cell? p'=some u' from h2))).trans h2
  refine (wins_one ha3 hu).mono ?_
  rintro e w4 ⟨b,bc,rfl,hcb,hb4⟩
  have hB4:Below w.heap.size w w4:=hB3.trans (below_le hb4 hB3.size)
  have hk4:w4.cell? ⟨g,0,none⟩=some (.string ⟨bytes.toArray⟩):=(hb4.cell (World.block_lt_of_cell? _ _ hk3)).trans hk3
  have hblk4:w4.heap[w.heap.size]?=some (.cells cs0 64 (0,0)):=(hb4.block _ (Array.getElem?_eq_some_iff.1 hblk3).1).trans hblk3
  have hS4:w4.cell? ⟨g,0,none⟩=some (.string ⟨bytes.toArray⟩)∧Below w.heap.size w w4∧∃ cs0:Array Value,w4.heap[w.heap.size]?=some (.cells cs0 64 (0,0))∧cs0.size=35:=⟨hk4,hB4,cs0,hblk4,hcs⟩
  refine hK _ _ hS4 fun _=>?_
  clear hK K
  refine wpAnyH_take (i:=15) (v:=.pointer (some ⟨b,0,none⟩)) (fuel:=4) rfl (by kernel_rfl) (by kernel_rfl) (by kernel_rfl) (fun _ _ _ h=>h) (.inl ⟨rfl,fun W hW=>by go_simp⟩) hS4 ?_
  refine wpAnyH_ready (rs:=[16]) (by kernel_rfl) (by simp) ?_
  refine AllReadyH.cons rfl (fun K hK=>?_) AllReadyH.nil
  rw [if_pos (by kernel_rfl)]
  go_simp
  refine hK _ _ hS4 fun _=>?_
  clear hK K
  refine wpAnyH_take (i:=19) (v:=.agg (bestCells ⟨bytes.toArray⟩ wIdb 0 1).toArray) (fuel:=2) rfl (by kernel_rfl) (by kernel_rfl) (by kernel_rfl) (fun _ _ _ h=>h) (.inl ⟨rfl,fun W hW=>exec_build (t:=64) (ps:=#[(0,.tmp 35),(1,.tmp 43),(2,.tmp 48),(3,.tmp 50)]) (by kernel_rfl) (by kernel_rfl) (build64 ⟨bytes.toArray⟩ 0 1 W)⟩) hS4 ?_
  refine wpAnyH_ready (rs:=[20]) (by kernel_rfl) (by simp) ?_
  refine AllReadyH.cons rfl (fun K hK=>?_) AllReadyH.nil
  rw [if_pos (by kernel_rfl)]
  refine wp_storeVar (t:=64) (x:=.tmp 2) (y:=.tmp 51) (by kernel_rfl) (by kernel_rfl) (by kernel_rfl) (store_row size64 (ds:=bestCells ⟨bytes.toArray⟩ wIdb 0 1) rfl rfl hblk4 hcs) ?_
  have hgne:g≠w.heap.size:=by simp at hg; omega
  have hB5:Below w.heap.size w (w4.setRow w.heap.size (bestCells ⟨bytes.toArray⟩ wIdb 0 1).toArray):=hB4.trans (below_setRow _ _ _ (Nat.le_refl _))
  have hS5:(w4.setRow w.heap.size (bestCells ⟨bytes.toArray⟩ wIdb 0 1).toArray).cell? ⟨g,0,none⟩=some (.string ⟨bytes.toArray⟩)∧Below w.heap.size w (w4.setRow w.heap.size (bestCells ⟨bytes.toArray⟩ wIdb 0 1).toArray)∧∃ cs0:Array Value,(w4.setRow w.heap.size (bestCells ⟨bytes.toArray⟩ wIdb 0 1).toArray).heap[w.heap.size]?=some (.cells cs0 64 (0,0))∧cs0.size=35 :=
    ⟨(World.cell?_of_block (setRow_other w4 _ g _ hgne)).trans hk4,hB5,_,setRow_heap _ _ _ _ _ _ hblk4,rfl⟩
  refine hK _ _ hS5 fun _=>?_
  clear hK K
  refine wpAnyH_take (i:=21) (v:=.nilIface) (fuel:=0) rfl (by kernel_rfl) (by kernel_rfl) (by kernel_rfl) (fun _ _ _ h=>h) (.inl ⟨rfl,fun W hW=>by go_simp⟩) hS5 ?_
  refine wpAnyH_done (by kernel_rfl) ?_ _
  go_simp
  go_wp2
  refine bodyPost_ret (results_cell2 (p:=2) (u:=3) rfl rfl (load_row size64 agg64 rfl (cells_add (setRow_heap _ _ _ _ _ _ hblk4)))) rfl ⟨rfl,hB5⟩
theorem decide1 {cs:List Value} (hl:cs.length=104) {w:World} {p q m ms n n2:Nat} {room:Int} {D:DataW Unit} {E:DataW Value} (hs:SessAt w cs p q m ms n n2 room D E)
    {bytes:List UInt8} (hbl:bytes.length≤maxLen) (hkeys:strKeys D=[bytes]) (hsz:Maps.size D≤1) {v:Value} {a2 a3:Option Addr} {l2 c2 l3 c3:Nat} (hE:∀ zd,E.atKey (.string bytes) zd=.held (.agg #[v,.slice a2 l2 c2,.slice a3 l3 c3]))
    {S:Snap} (hS:∀ p u,S p=some u→w.cell? p=some u) (hv:VRep S (.slice headStep) v (.slice wSteps)) (hside:VRep S sideT (.agg #[.slice a2 l2 c2,.slice a3 l3 c3]) wSide) (hM:cs[98]?=some (.int .i64 1)) :
    Calls Tryz.prog 17 #[.pointer (some ⟨p,0,none⟩)] w fun e w'=>e=.returned (.tuple #[.agg (bestCells ⟨bytes.toArray⟩ wIdb 0 1).toArray,.int .i64 0])∧Below w.heap.size w w' :=
  decide_of rfl rfl w (fun _ hW=>best1 hl (hs.kept hW) hbl hkeys hsz hE (fun p' u' h'=>(hW.cell (World.block_lt_of_cell? _ _ (hS p' u' h'))).trans (hS p' u' h')) hv hside hM) (fun W=>code_nil W)
end Go.Proofs.YtlkkebfjmbfgpaaGreatDoor.Ev

namespace Go.Proofs.YtlkkebfjmbfgpaaGreatDoor.Ev
open Go Go.RowKit
set_option maxRecDepth 1000000
def wDecide:ByteArray:=⟨#[100,101,99,105,100,101]⟩
def wNone:List UInt8:=[101,114,114,111,114,32,110,111,110,101,10]
theorem fail6_sat:Sat Tryz.prog f93_info 93 [.int 6] ⟨[.str wNone],[],false⟩:=sat_by 599 ext2_ok doT1_ok f93_ok (by kernel_rfl)
theorem count10 (w:World):(callFunc 203 #[.string wDecide,.int .u8 10]).run Tryz.prog w=.ok (Next.value (.int .i64 0)) w:=by kernel_rfl
theorem count32 (w:World):(callFunc 203 #[.string wDecide,.int .u8 32]).run Tryz.prog w=.ok (Next.value (.int .i64 0)) w:=by kernel_rfl
theorem make22b (W:World):Sem.run Tryz.prog (Instr.makeSlice 22 (.int .i64 1) (.int .i64 1)) W=.ok (.slice (some ⟨W.heap.size,0,none⟩) 1 1) (W.alloc (.cells #[.string ⟨#[]⟩] 9)):=by kernel_rfl
theorem at10 (h:0 < (⟨#[10]⟩:ByteArray).size):((⟨#[10]⟩:ByteArray)[0]'h).toNat=10:=rfl
theorem at32 (h:0 < (⟨#[32]⟩:ByteArray).size):((⟨#[32]⟩:ByteArray)[0]'h).toNat=32:=rfl
set_option maxRecDepth 100000 in
theorem split10 (w:World) :
    Calls Tryz.prog 41 #[.string wDecide,.string ⟨#[10]⟩] w fun e w'=>e=.returned (.slice (some ⟨w.heap.size,0,none⟩) 1 1)∧w'.cell? ⟨w.heap.size,0,none⟩=some (.string wDecide)∧w'.heap.size=w.heap.size+1∧Below w.heap.size w w':=by
  have hmk:=make22b
  have hmin:min (1:Int) 7=1:=by decide
  have h10:=count10
  have ha:=at10
  unfold wDecide at *
  go_enter Tryz.func41,Tryz.ntmps41
  go_wp2
  refine wp_loop_rounds 1 ?_
  rw [rounds_succ]
  go_wp2
  refine bodyPost_ret (results_tmp rfl _ _ _) rfl ⟨rfl,?_,?_,?_⟩
  · go_simp
  · simp
  · exact (Below.refl _ w).alloc (Nat.le_refl _) _
set_option maxRecDepth 100000 in
theorem split32 (w:World) :
    Calls Tryz.prog 41 #[.string wDecide,.string ⟨#[32]⟩] w fun e w'=>e=.returned (.slice (some ⟨w.heap.size,0,none⟩) 1 1)∧w'.cell? ⟨w.heap.size,0,none⟩=some (.string wDecide)∧w'.heap.size=w.heap.size+1∧Below w.heap.size w w':=by
  have hmk:=make22b
  have hmin:min (1:Int) 7=1:=by decide
  have h10:=count32
  have ha:=at32
  unfold wDecide at *
  go_enter Tryz.func41,Tryz.ntmps41
  go_wp2
  refine wp_loop_rounds 1 ?_
  rw [rounds_succ]
  go_wp2
  refine bodyPost_ret (results_tmp rfl _ _ _) rfl ⟨rfl,?_,?_,?_⟩
  · go_simp
  · simp
  · exact (Below.refl _ w).alloc (Nat.le_refl _) _
set_option maxRecDepth 100000 in
theorem wordsDecide (w:World) :
    Calls Tryz.prog 42 #[.string wDecide] w fun e w'=>∃ g c,e=.returned (.slice (some ⟨g,0,none⟩) 1 c)∧w'.cell? ⟨g,0,none⟩=some (.string wDecide)∧Below w.heap.size w w':=by
  have hd:wDecide.toList.isEmpty=false:=by kernel_rfl
  go_enter Tryz.func42,Tryz.ntmps42
  go_wp2_with (go_at_call 41; refine (split32 _).mono ?_; rintro e w1 ⟨rfl,hc,hz,hb⟩)
  refine wp_loop_rounds 2 ?_
  rw [rounds_succ]
  go_wp2
  rw [rounds_succ]
  go_wp2
  refine bodyPost_ret (results_tmp rfl _ _ _) rfl ⟨_,_,rfl,?_,?_⟩
  · go_simp
    simp [Array.getElem?_append]
  · have h1:=hb.size
    exact hb.trans ((((Below.refl _ w1).alloc h1 _).alloc (by simp; omega) _).trans (below_drew _ _))
set_option maxRecDepth 100000 in
theorem deskDecide {d:Nat} {w:World} (hd:w.cell? ⟨d,0,none⟩=some (.pointer none)):Calls Tryz.prog 92 #[.pointer (some ⟨d,0,none⟩)] w fun e w'=>e=.returned (.string ⟨wNone.toArray⟩)∧Below w.heap.size w w':=by
  have hf:∀ W:World,Calls Tryz.prog 93 #[.int .i64 6] W fun e w'=>e=.returned (.string ⟨wNone.toArray⟩)∧Below W.heap.size W w':=fun W =>
    fail6_sat.str rfl (S:=noSnap) (fun _ _ h=>by cases h) (vs:=[.int .i64 6]) ⟨_,_,_,_,rfl,rfl,VRep.int_mk (by decide),rfl,rfl,rfl⟩
  have Hf:=hid hf
  clear hf
  go_enter Tryz.func92,Tryz.ntmps92
  go_wp2_with (first
    | (go_at_call 17; refine (decide0 _).mono ?_; rintro e w1 ⟨rfl,hb1⟩)
    | (refine wpList_store rfl (t:=64) (x:=.tmp 3) (y:=.tmp 11) rfl rfl rfl (store_row size64 (ds:=zero64) rfl rfl (Go.MapKept.heap_alloc w1 _).1 rfl) ?_; go_frame)
    | (go_at_call 93; refine (Hf.out _).mono ?_; rintro e w2 ⟨rfl,hb2⟩))
  have h1:=hb1.size
  refine bodyPost_ret (results_tmp rfl _ _ _) rfl ⟨rfl,?_⟩
  exact ((hb1.trans ((Below.refl _ w1).alloc h1 _)).trans (below_setRow _ _ _ h1)).trans (below_le hb2 (by simp; omega))
set_option maxRecDepth 100000 in
theorem deskLine {d g c:Nat} {w:World} (hd:w.cell? ⟨d,0,none⟩=some (.pointer none)) (hg:w.cell? ⟨g,0,none⟩=some (.string wDecide)):Calls Tryz.prog 44 #[.pointer (some ⟨d,0,none⟩),.slice (some ⟨g,0,none⟩) 1 c] w fun e w'=>e=.returned (.string ⟨wNone.toArray⟩)∧Below w.heap.size w w':=by
  unfold wDecide at hg
  have hc:=hid (deskDecide hd)
  go_enter Tryz.func44,Tryz.ntmps44
  go_wp2_with (go_at_call 92; refine hc.out.mono ?_; rintro e w1 ⟨rfl,hb1⟩)
  exact bodyPost_ret (results_tmp rfl _ _ _) rfl ⟨rfl,hb1⟩
set_option maxRecDepth 100000 in
theorem deskPlay (w:World):Calls Tryz.prog 18 #[.string wDecide] w fun e w'=>e=.returned (.string ⟨wNone.toArray⟩)∧Below w.heap.size w w':=by
  go_enter Tryz.func18,Tryz.ntmps18
  go_wp2_with (go_at_call 41; refine (split10 _).mono ?_; rintro e w1 ⟨rfl,hc,hz,hb⟩)
  have hW0:Below w.heap.size w w1:=(((Below.refl _ w).alloc (Nat.le_refl _) _).alloc (by simp) _).trans (below_le hb (by simp; omega))
  have hd1:w1.cell? ⟨w.heap.size,0,none⟩=some (.pointer none):=(hb.cell (by simp; omega)).trans (by simp)
  have hI1:Lib.IsBuilder 109 5 (w.heap.size+1) (w.heap.size+1) [] w1:=by
    refine isBuilder_kept (w:=(w.alloc (.cells #[.pointer none] 106)).alloc (.cells #[.pointer none,.slice none 0 0] 109)) (.inl ⟨Nat.le_refl _,.slice none 0 0,?_,World.ownsRow_nil _ _ _ _,by simp [Value.ownBlock]⟩) hb
    have:=(Go.MapKept.heap_alloc (w.alloc (.cells #[.pointer none] 106)) (.cells #[.pointer none,.slice none 0 0] 109)).1
    simpa using this
  have hz1:w.heap.size+3=w1.heap.size:=by rw [hz]; simp
  have Hz1:=hid hz1
  have hc1:w1.cell? ⟨w.heap.size+1+1,0,none⟩=some (.string wDecide):=by simpa using hc
  clear hz hz1 hb hc
  refine wp_loop_rounds 2 ?_
  rw [rounds_succ]
  go_wp2_with (first
    | (go_at_call 42; refine (wordsDecide _).mono ?_; rintro e w2 ⟨g,c,rfl,hg2,hb2⟩
       have hd2:w2.cell? ⟨w.heap.size,0,none⟩=some (.pointer none):=(hb2.cell (World.block_lt_of_cell? _ _ hd1)).trans hd1)
    | (go_at_call 44; refine (deskLine hd2 hg2).mono ?_; rintro e w3 ⟨rfl,hb3⟩)
    | (go_at_call 43; refine (Tryz.writeString Tryz.built109 (w.heap.size+1) (w.heap.size+1) [] ⟨wNone.toArray⟩ w3 (isBuilder_kept (isBuilder_kept hI1 hb2) hb3) (by decide) (by have:=Hz1.out; have:=hb2.size; have:=hb3.size; omega) (by decide)).mono ?_; rintro e w4 ⟨rfl,hI4,hb4,hn4⟩))
  rw [rounds_succ]
  have hs:=hid (Tryz.builderString (T:=109) (w.heap.size+1) (w.heap.size+1) wNone w4 (.inr (by simpa [Lib.strCells,Lib.byteCells] using hI4)) (by decide))
  go_wp2_with (go_at_call 45; refine hs.out.mono ?_; rintro e w5 ⟨rfl,hb5⟩)
  refine bodyPost_ret (results_tmp rfl _ _ _) rfl ⟨rfl,?_⟩
  exact ((hW0.trans (below_le hb2 hW0.size)).trans (below_le hb3 (by have:=hW0.size; have:=hb2.size; omega))).trans ((below_le hb4 (by simp)).trans (below_le hb5 (by simp)))
end Go.Proofs.YtlkkebfjmbfgpaaGreatDoor.Ev

namespace Go.Proofs.YtlkkebfjmbfgpaaGreatDoor.Ev
open Go Go.RowKit Go.Maps Go.WideMaps Go.Sort
theorem wpList_build {P:Program} {ops:Array Oper} {rest:List Oper} {o:Oper} {a:Act} {Q:Exit→Act→World→Prop} {w:World} (hg:o.guard=none) {t:TypeId} {ps:Array (Nat × Operand)} {vs:Array (Nat × Value)} {v:Value} (hop:o.op=Op.build t ps) (hx0:ps.toList.map (fun (i,x)=>(i,a.eval x))=vs.toList)
    (hr:(Instr.build t vs).run P w=.ok v w) (h:wpList P ops Q rest (a.put o.dst v) w):wpList P ops Q (o::rest) a w :=
  wpList_plain hg fun _ hK=>by
    unfold Oper.wp
    rw [exec_build hop hx0 hr]
    exact hK _ _ h
def blobV (l:List UInt8):Value:=.agg (l.map byteV).toArray
def gHead:List Value:=[.int .u32 0]++wR0.map byteV++wR0.map byteV++[.int .u64 0]
def bHead:List Value:=[.int .u32 1]++wL1.map byteV++wT1.map byteV++[.int .u64 0]
def gBlock:List Value:=gHead++[.slice none 0 0]
def bBlock (g:Nat):List Value:=bHead++[.slice (some ⟨g,0,none⟩) 1 1]
def cfgCells:List Value:=gHead++wFull.map byteV++[.int .i64 1,.int .i64 1,.int .i64 1,.int .i64 2,.int .i64 4,.int .i64 2]
theorem build45g (W:World):(Instr.build 45 #[(1,blobV wR0),(2,blobV wR0)]).run Tryz.prog W=.ok (.agg gHead.toArray) W:=by kernel_rfl
theorem build47g (W:World):(Instr.build 47 #[(0,.agg gHead.toArray)]).run Tryz.prog W=.ok (.agg gBlock.toArray) W:=by kernel_rfl
theorem build50c (W:World):(Instr.build 50 #[(0,.agg gHead.toArray),(1,blobV wFull),(2,.int .i64 1),(3,.int .i64 1),(4,.int .i64 1),(5,.int .i64 2),(6,.int .i64 4),(7,.int .i64 2)]).run Tryz.prog W=.ok (.agg cfgCells.toArray) W:=by kernel_rfl
theorem build45b (W:World):(Instr.build 45 #[(0,.int .u32 1),(1,blobV wL1),(2,blobV wT1)]).run Tryz.prog W=.ok (.agg bHead.toArray) W:=by kernel_rfl
theorem build47b (g:Nat) (W:World):(Instr.build 47 #[(0,.agg bHead.toArray),(1,.slice (some ⟨g,0,none⟩) 1 1)]).run Tryz.prog W=.ok (.agg (bBlock g).toArray) W:=by kernel_rfl
theorem size47 (w:World):(sizeOf 47).run Tryz.prog w=.ok 67 w:=by kernel_rfl
theorem agg47 (w:World):(isAgg 47).run Tryz.prog w=.ok true w:=by kernel_rfl
theorem size50 (w:World):(sizeOf 50).run Tryz.prog w=.ok 104 w:=by kernel_rfl
theorem agg50 (w:World):(isAgg 50).run Tryz.prog w=.ok true w:=by kernel_rfl
theorem Sat.blobC {i:FnInfo} {f:FuncId} {xs:List AV} {l:List UInt8} {n:Nat} {fr:Bool} (hs:Sat Tryz.prog i f xs ⟨[.blob l],[],fr⟩) (hr:i.results=[.val (.blob n)]) {S:Snap} {w:World} {vs:List Value}
    (ha:∀ p v,S p=some v→w.cell? p=some v) (hargs:ArgsRel S w i.params vs xs []) :
    Calls Tryz.prog f vs.toArray w fun e w'=>e=.returned (blobV l)∧Below w.heap.size w w':=by
  refine (hs.one hr ha hargs).mono ?_
  rintro e w' ⟨S',v,rfl,_,_,_,hv,hb⟩
  obtain ⟨cs,rfl,s,_,rfl,h3⟩:=hv
  cases h3
  exact ⟨rfl,hb⟩
theorem root_nil (W:World):Calls Tryz.prog 5 #[.slice none 0 0] W fun e w'=>e=.returned (blobV wR0)∧Below W.heap.size W w' :=
  dn19_sat.blobC rfl (S:=noSnap) (fun _ _ h=>by cases h) (vs:=[.slice none 0 0]) ⟨_,_,_,_,rfl,rfl,⟨[.slice none 0 0],rfl,none,0,0,[],rfl,rfl,rfl,Nat.le_refl _,Nat.zero_le _,fun _=>rfl,fun p hp=>by cases hp⟩,rfl,rfl,rfl⟩
theorem full_call (W:World):Calls Tryz.prog 10 #[] W fun e w'=>e=.returned (blobV wFull)∧Below W.heap.size W w' :=
  dn20_sat.blobC rfl (S:=noSnap) (fun _ _ h=>by cases h) (vs:=[]) ⟨rfl,rfl,rfl⟩
theorem gHead_rep:Rep noSnap headT gHead wG:=by
  refine ⟨_,rfl,_,_,rfl,by decide,⟨0,rfl,rfl,by decide⟩,_,_,rfl,by decide,⟨wR0,rfl,by kernel_rfl,rfl⟩,_,_,rfl,by decide,⟨wR0,rfl,by kernel_rfl,rfl⟩,_,_,rfl,by decide,⟨0,by kernel_rfl,rfl,by decide⟩,by kernel_rfl,rfl⟩
theorem bHead_rep:Rep noSnap headT bHead wB:=by
  refine ⟨_,rfl,_,_,rfl,by decide,⟨1,rfl,rfl,by decide⟩,_,_,rfl,by decide,⟨wL1,rfl,by kernel_rfl,rfl⟩,_,_,rfl,by decide,⟨wT1,rfl,by kernel_rfl,rfl⟩,_,_,rfl,by decide,⟨0,by kernel_rfl,rfl,by decide⟩,by kernel_rfl,rfl⟩
theorem cfg_rep:Rep noSnap cfgT cfgCells wC:=by
  refine ⟨_,rfl,_,_,rfl,by decide,(by exact gHead_rep),_,_,rfl,by decide,⟨wFull,by decide,by kernel_rfl,rfl⟩,_,_,rfl,by decide,⟨1,by kernel_rfl,rfl,by decide⟩,_,_,rfl,by decide,⟨1,by kernel_rfl,rfl,by decide⟩,_,_,rfl,by decide,⟨1,by kernel_rfl,rfl,by decide⟩,_,_,rfl,by decide,⟨2,by kernel_rfl,rfl,by decide⟩,_,_,rfl,by decide,⟨4,by kernel_rfl,rfl,by decide⟩,_,_,rfl,by decide,⟨2,by kernel_rfl,rfl,by decide⟩,by kernel_rfl,rfl⟩
theorem one_str {l:List UInt8} (hl:l.length≤maxLen) {g:Nat} {w:World} (hc:w.cell? ⟨g,0,none⟩=some (.string ⟨l.toArray⟩)):∃ S:Snap,(∀ p u,S p=some u→w.cell? p=some u)∧VRep S (.slice .str) (.slice (some ⟨g,0,none⟩) 1 1) (.slice [.str l]):=by
  refine ⟨Snap.plus noSnap g 0 [.string ⟨l.toArray⟩],fun p u hp=>?_,?_⟩
  · rcases Snap.plus_new hp with h | ⟨h1,h2,_,h4⟩
    · cases h
    · obtain ⟨pb,po,ps⟩:=p
      simp only at h1 h2 h4
      subst h1; subst h2
      match po,h4 with
      | 0,h4=>cases h4; exact hc
  · refine VRep.slice_mk (cs:=[.string ⟨l.toArray⟩]) ⟨_,rfl,rfl,rfl,fun i y hy=>?_⟩ (Snap.plus_has _ (fun p _ _=>rfl)) (Nat.le_refl _) (by decide)
    match i,hy with
    | 0,hy=>cases hy; exact ⟨l,rfl,rfl,hl⟩
theorem root_L {g:Nat} {w:World} (hc:w.cell? ⟨g,0,none⟩=some (.string ⟨(76::wIdg).toArray⟩)):Calls Tryz.prog 5 #[.slice (some ⟨g,0,none⟩) 1 1] w fun e w'=>e=.returned (blobV wL1)∧Below w.heap.size w w':=by
  obtain ⟨S,ha,hv⟩:=one_str (by decide) hc
  exact dn22_sat.blobC rfl ha (vs:=[.slice (some ⟨g,0,none⟩) 1 1]) ⟨_,_,_,_,rfl,rfl,hv,rfl,rfl,rfl⟩
theorem root_T {g:Nat} {w:World} (hc:w.cell? ⟨g,0,none⟩=some (.string ⟨([84,97]:List UInt8).toArray⟩)):Calls Tryz.prog 5 #[.slice (some ⟨g,0,none⟩) 1 1] w fun e w'=>e=.returned (blobV wT1)∧Below w.heap.size w w':=by
  obtain ⟨S,ha,hv⟩:=one_str (by decide) hc
  exact dn23_sat.blobC rfl ha (vs:=[.slice (some ⟨g,0,none⟩) 1 1]) ⟨_,_,_,_,rfl,rfl,hv,rfl,rfl,rfl⟩
theorem id_g (w:World):Calls Tryz.prog 12 #[.agg gHead.toArray] w fun e w'=>e=.returned (blobV wIdg)∧Below w.heap.size w w' :=
  dn7_sat.blobC rfl (S:=noSnap) (fun _ _ h=>by cases h) (vs:=[.agg gHead.toArray]) ⟨_,_,_,_,rfl,rfl,⟨_,rfl,gHead_rep⟩,rfl,rfl,rfl⟩
theorem id_b (w:World):Calls Tryz.prog 12 #[.agg bHead.toArray] w fun e w'=>e=.returned (blobV wIdb)∧Below w.heap.size w w' :=
  dn8_sat.blobC rfl (S:=noSnap) (fun _ _ h=>by cases h) (vs:=[.agg bHead.toArray]) ⟨_,_,_,_,rfl,rfl,⟨_,rfl,bHead_rep⟩,rfl,rfl,rfl⟩
theorem text_g (w:World):Calls Tryz.prog 11 #[blobV wIdg] w fun e w'=>e=.returned (.string ⟨wIdg.toArray⟩)∧Below w.heap.size w w' :=
  dn21_sat.str rfl (S:=noSnap) (fun _ _ h=>by cases h) (vs:=[blobV wIdg]) ⟨_,_,_,_,rfl,rfl,⟨_,rfl,wIdg,by decide,rfl,rfl⟩,rfl,rfl,rfl⟩
end Go.Proofs.YtlkkebfjmbfgpaaGreatDoor.Ev

namespace Go.Proofs.YtlkkebfjmbfgpaaGreatDoor.Ev
open Go Go.RowKit Go.Maps Go.WideMaps Go.Sort
set_option maxRecDepth 100000
theorem noSnap_le (S:Snap):noSnap.le S:=fun _ _ h=>by cases h
def blockT:Ty:=.struct [headT,.slice .str]
theorem gBlock_rep (S:Snap):Rep S blockT gBlock (.agg [wG,.slice []]) :=
  ⟨_,rfl,_,_,rfl,by decide,Rep.mono (noSnap_le S) _ _ _ gHead_rep,_,_,rfl,by decide,⟨none,0,0,[],by kernel_rfl,rfl,rfl,Nat.le_refl _,Nat.zero_le _,fun _=>rfl,fun p hp=>by cases hp⟩,by kernel_rfl,rfl⟩
theorem bBlock_rep {S:Snap} {g:Nat} (hS:S.has ⟨g,0,none⟩ [.string ⟨#[97]⟩]):Rep S blockT (bBlock g) (.agg [wB,.slice [.str [97]]]):=by
  refine ⟨_,rfl,_,_,rfl,Nat.le_of_ble_eq_true (by kernel_rfl),Rep.mono (noSnap_le S) _ _ _ bHead_rep,_,_,rfl,Nat.le_of_ble_eq_true (by kernel_rfl),⟨some ⟨g,0,none⟩,1,1,[.str [97]],by kernel_rfl,rfl,rfl,Nat.le_refl _,by decide,(fun h=>by cases h),fun p hp i y hy=>?_⟩,by kernel_rfl,rfl⟩
  cases hp
  match i,hy with
  | 0,hy =>
    cases hy
    exact ⟨_,by rw [add_plain]; simpa using hS,rfl,⟨[97],rfl,rfl,by decide⟩⟩
theorem chain_rep {g b:Nat} {w:World} (hg:w.cell? ⟨g,0,none⟩=some (.string ⟨#[97]⟩)) (hb:∀ (j:Nat) v,(gBlock++bBlock g)[j]?=some v→w.cell? ⟨b,j,none⟩=some v) (hne:g≠b) :
    ∃ S:Snap,(∀ p u,S p=some u→w.cell? p=some u)∧VRep S (.slice blockT) (.slice (some ⟨b,0,none⟩) 2 2) (.slice wChain):=by
  refine ⟨Snap.plus (Snap.plus noSnap g 0 [.string ⟨#[97]⟩]) b 0 (gBlock++bBlock g),fun p u hp=>?_,?_⟩
  · rcases Snap.plus_new hp with h | ⟨h1,h2,_,h4⟩
    · rcases Snap.plus_new h with h | ⟨h1,h2,_,h4⟩
      · cases h
      · obtain ⟨pb,po,ps⟩:=p
        simp only at h1 h2 h4
        subst h1; subst h2
        match po,h4 with
        | 0,h4=>cases h4; exact hg
    · obtain ⟨pb,po,ps⟩:=p
      simp only at h1 h2 h4
      subst h1; subst h2
      exact hb _ _ h4
  · refine VRep.slice_mk (cs:=gBlock++bBlock g) ⟨_,rfl,rfl,by kernel_rfl,fun i y hy=>?_⟩ (Snap.plus_has _ (fun p h1 _=>?_)) (Nat.le_refl _) (by decide)
    · match i,hy with
      | 0,hy =>
        cases hy
        have e:((gBlock++bBlock g).drop (0*blockT.size)).take blockT.size=gBlock:=by kernel_rfl
        rw [e]; exact gBlock_rep _
      | 1,hy =>
        cases hy
        have e:((gBlock++bBlock g).drop (1*blockT.size)).take blockT.size=bBlock g:=by kernel_rfl
        rw [e]
        exact bBlock_rep (Snap.has_mono (Snap.le_plus _ _ _ _) (Snap.plus_has _ (fun p _ _=>rfl)))
    · obtain ⟨pb,po,ps⟩:=p
      cases h1
      unfold Snap.plus noSnap
      simp [Ne.symm hne]
theorem prove_call {g b:Nat} {w:World} (hg:w.cell? ⟨g,0,none⟩=some (.string ⟨#[97]⟩)) (hb:∀ (j:Nat) v,(gBlock++bBlock g)[j]?=some v→w.cell? ⟨b,j,none⟩=some v) (hne:g≠b) :
    Calls Tryz.prog 13 #[.agg cfgCells.toArray,.slice (some ⟨b,0,none⟩) 2 2] w fun e w'=>∃ S v,e=.returned (.tuple #[v,.int .i64 0])∧(∀ p u,S p=some u→w'.cell? p=some u)∧VRep S (.slice headStep) v (.slice wSteps)∧Below w.heap.size w w':=by
  obtain ⟨S,ha,hv⟩:=chain_rep hg hb hne
  refine (dn15_sat.pair rfl ha (vs:=[.agg cfgCells.toArray,.slice (some ⟨b,0,none⟩) 2 2]) ⟨_,_,_,_,rfl,rfl,⟨_,rfl,Rep.mono (noSnap_le S) _ _ _ cfg_rep⟩,_,_,_,_,rfl,rfl,hv,rfl,rfl,rfl⟩).mono ?_
  rintro e w' ⟨S',v,rfl,_,_,h3,h4,h5⟩
  exact ⟨S',v,rfl,h3,h4,h5⟩
theorem new_call (w:World):Calls Tryz.prog 15 #[.agg cfgCells.toArray] w fun e w'=>∃ p q m ms,e=.returned (.pointer (some ⟨p,0,none⟩))∧SessAt w' cfgCells p q m ms 0 0 2 (.map []) (.map [])∧w.heap.size≤m∧w.heap.size≤ms∧Below w.heap.size w w':=by
  refine (sessionNew cfg_rep dn10_sat (room:=2) (by kernel_rfl) w).mono ?_
  rintro e w' ⟨p,q,m,ms,rfl,h1,h2,h3,a,b,c,d,f,_,_,hm,hms,hb⟩
  exact ⟨p,q,m,ms,rfl,⟨h1,h2,⟨#[],0,h3,⟨by simp,Go.MapKept.stamped_empty 0,by simp⟩,Nat.le_refl _,rfl⟩,a,b,c,d,f⟩,hm,hms,hb⟩
theorem submit_call {w:World} {p q m ms:Nat} (hs:SessAt w cfgCells p q m ms 0 0 2 (.map []) (.map [])) :
    Calls Tryz.prog 16 #[.pointer (some ⟨p,0,none⟩),.string ⟨wBytes.toArray⟩] w fun e w'=>e=.returned (.tuple #[.bool true,.int .i64 0])∧∃ S' v a b,
      SessAt w' cfgCells p q m ms 1 1 2 ((DataW.map []).put (.string wBytes) (.lit (.int .i64 0))) ((DataW.map []).put (.string wBytes) (.held (.agg #[v,a,b]))) ∧
      VRep S' (.slice headStep) v (.slice wSteps)∧VRep S' sideT (.agg #[a,b]) wSide∧(∀ p u,S' p=some u→w'.cell? p=some u)∧Keep w.heap.size [m,ms] w w':=by
  have hval:∀ (S:Snap) (W:World) (v:Value),(∀ p u,S p=some u→W.cell? p=some u)→VRep S (.slice headStep) v (.slice wSteps)→Calls Tryz.prog 80 #[.agg cfgCells.toArray,v] W fun e w'=>e=.returned (.agg #[.int .i64 0,.int .i64 0])∧Below W.heap.size W w':=fun S W v ha hv=>by
    refine (dn16_sat.one rfl ha (vs:=[.agg cfgCells.toArray,v]) ⟨_,_,_,_,rfl,rfl,⟨_,rfl,Rep.mono (noSnap_le S) _ _ _ cfg_rep⟩,_,_,_,_,rfl,rfl,hv,rfl,rfl,rfl⟩).mono ?_
    rintro e w' ⟨S',v,rfl,_,_,_,h4,h5⟩
    refine ⟨?_,h5⟩
    obtain ⟨cs,rfl,xs,e1,h⟩:=h4
    cases e1
    simp only [RepL] at h
    obtain ⟨y1,ys1,e1,l1,r1,y2,ys2,e2,l2,r2,h3,_⟩:=h
    cases e1; cases e2
    obtain ⟨k1,f1,g1,_⟩:=r1
    obtain ⟨k2,f2,g2,_⟩:=r2
    cases g1; cases g2
    match cs,f1,f2,h3 with
    | [x,z],f1,f2,_=>cases f1; cases f2; rfl
  have hr:=read_ok cfg_rep (steps:=wSteps) (bytes:=wBytes) (A0:=.struct [headT,.struct [.int .i64,.int .i64,.slice (.blob 32)]]) rfl rfl dn17_sat (by decide) hval (lim:=4) (by kernel_rfl) (by decide) hs.sess
  refine (submit_new (by kernel_rfl) hs (bytes:=wBytes) (steps:=wSteps) (target:=wFull) (side:=wSide) (stepT:=headStep) hr (cfg_target cfg_rep) (fun S W v ha hv=>?_) (by decide) (by decide) (by decide) (by decide) rfl).mono ?_
  · refine (dn18_sat.one rfl ha (vs:=[.agg ((cfgCells.drop 66).take 32).toArray,v]) ⟨_,_,_,_,rfl,rfl,⟨_,rfl,Rep.mono (noSnap_le S) _ _ _ (cfg_target cfg_rep)⟩,_,_,_,_,rfl,rfl,hv,rfl,rfl,rfl⟩)
  · rintro e w' ⟨rfl,S',v,a,b,h1,h2,h3,_,h5,h6⟩
    exact ⟨rfl,S',v,a,b,h1,h2,h3,h5,h6⟩
theorem decide_call {w:World} {p q m ms:Nat} {S:Snap} {v a b:Value} (hs:SessAt w cfgCells p q m ms 1 1 2 ((DataW.map []).put (.string wBytes) (.lit (.int .i64 0))) ((DataW.map []).put (.string wBytes) (.held (.agg #[v,a,b]))))
    (hv:VRep S (.slice headStep) v (.slice wSteps)) (hside:VRep S sideT (.agg #[a,b]) wSide) (hS:∀ p u,S p=some u→w.cell? p=some u) :
    Calls Tryz.prog 17 #[.pointer (some ⟨p,0,none⟩)] w fun e w'=>e=.returned (.tuple #[.agg (bestCells ⟨wBytes.toArray⟩ wIdb 0 1).toArray,.int .i64 0])∧Below w.heap.size w w':=by
  obtain ⟨a2,l2,c2,a3,l3,c3,e⟩:=side_shape hside
  cases e
  refine decide1 (by kernel_rfl) hs (by decide) (by rfl) (by decide) (fun zd=>atKey_put_same ⟨_,rfl⟩ ?_ _ _) hS hv hside (by kernel_rfl)
  exact trivial
theorem exec_buildSlice {P:Program} {o:Oper} {a:Act} {w w':World} {t:TypeId} {n:Nat} {ps:Array (Nat × Operand)} {vs:Array (Nat × Value)} {v:Value} (hop:o.op=Op.buildSlice t n ps) (hx0:ps.toList.map (fun (i,x)=>(i,a.eval x))=vs.toList) (hr:(Instr.buildSlice t n vs).run P w=.ok v w'):(execOp a.eval o).run P w=.ok (.value v) w':=by
  have hx:ps.map (fun (i,x)=>(i,a.eval x))=vs:=by
    apply Array.toList_inj.1
    rw [← hx0,Array.toList_map]
  subst hx
  simp only [execOp,hop]
  simp [hr,Result.andThen]
theorem wpList_buildSlice {P:Program} {ops:Array Oper} {rest:List Oper} {o:Oper} {a:Act} {Q:Exit→Act→World→Prop} {w w':World} (hg:o.guard=none) {t:TypeId} {n:Nat} {ps:Array (Nat × Operand)} {vs:Array (Nat × Value)} {v:Value} (hop:o.op=Op.buildSlice t n ps) (hx0:ps.toList.map (fun (i,x)=>(i,a.eval x))=vs.toList)
    (hr:(Instr.buildSlice t n vs).run P w=.ok v w') (h:wpList P ops Q rest (a.put o.dst v) w'):wpList P ops Q (o::rest) a w :=
  wpList_plain hg fun _ hK=>by
    unfold Oper.wp
    rw [exec_buildSlice hop hx0 hr]
    exact hK _ _ h
theorem build56 (g:Nat) (W:World):(Instr.buildSlice 56 2 #[(0,.agg gBlock.toArray),(1,.agg (bBlock g).toArray)]).run Tryz.prog W=.ok (.slice (some ⟨W.heap.size,0,none⟩) 2 2) (W.alloc (.cells (gBlock++bBlock g).toArray 47)):=by kernel_rfl
theorem cell_new1 (w:World) (x:Value) (t:TypeId):(w.alloc (.cells #[x] t)).cell? ⟨w.heap.size,0,none⟩=some x:=by
  have:=cell_one_new w x t 0 x rfl
  rw [add_plain] at this
  exact this
theorem leaf76:(⟨#[76]⟩++⟨wIdg.toArray⟩:ByteArray)=⟨(76::wIdg).toArray⟩:=bytes_append [76] wIdg
theorem third_block (w:World):∃ W,W=((w.alloc (.cells #[.string ⟨#[97]⟩] 9)).alloc (.cells Tryz.zeroCells47 47)).setRow (w.heap.size+1) (bBlock w.heap.size).toArray∧W.cell? ⟨w.heap.size,0,none⟩=some (.string ⟨#[97]⟩)∧W.heap[w.heap.size+1]?=some (.cells (bBlock w.heap.size).toArray 47 (0,0))∧W.heap.size=w.heap.size+2∧Below w.heap.size w W:=by
  have h1:=(Go.MapKept.heap_alloc (w.alloc (.cells #[.string ⟨#[97]⟩] 9)) (.cells Tryz.zeroCells47 47)).1
  have e:(w.alloc (.cells #[.string ⟨#[97]⟩] 9)).heap.size=w.heap.size+1:=by simp
  rw [e] at h1
  refine ⟨_,rfl,?_,setRow_heap _ _ _ _ _ _ h1,by simp [World.setRow],?_⟩
  · have h2:=cell_new1 w (.string ⟨#[97]⟩) 9
    have h3:(((w.alloc (.cells #[.string ⟨#[97]⟩] 9)).alloc (.cells Tryz.zeroCells47 47)).setRow (w.heap.size+1) (bBlock w.heap.size).toArray).heap[w.heap.size]?=(w.alloc (.cells #[.string ⟨#[97]⟩] 9)).heap[w.heap.size]? :=
      (setRow_other _ _ _ _ (by omega)).trans ((Go.MapKept.heap_alloc _ _).2 _ (by omega))
    simp only [World.cell?] at h2 ⊢
    rw [h3]; exact h2
  · exact (((Below.refl _ w).alloc (Nat.le_refl _) _).alloc (by simp) _).trans (below_setRow _ _ _ (by omega))
theorem best_tip {W:World} {b:Nat} {s:ByteArray} {n k:Int} (h:W.heap[b]?=some (.cells (bestCells s wIdb n k).toArray 64 (0,0))):Sem.run Tryz.prog (Instr.loadAt 32 (.pointer (some ⟨b,1,none⟩))) W=.ok (blobV wIdb) W :=
  load_cells (T:=.blob 32) (types2_ok.ty 32 (.blob 32) (by kernel_rfl)) rfl (cs:=wIdb.map byteV) (by kernel_rfl) (fun j v hj=>by
    have h0:(bestCells s wIdb n k)[1+j]?=some v:=by
      unfold bestCells
      rw [Nat.add_comm,List.getElem?_append_left (by have:=(List.getElem?_eq_some_iff.1 hj).1; simp at this ⊢; omega),List.getElem?_cons_succ]
      exact hj
    simp [World.cell?,h,h0])
theorem bHead_at {W:World} {b g:Nat} (h:W.heap[b]?=some (.cells (bBlock g).toArray 47 (0,0))):∀ (j:Nat) v,bHead[j]?=some v→W.cell? ⟨b,0+j,none⟩=some v:=fun j v hj=>by
  have h0:(bBlock g)[j]?=some v:=by unfold bBlock; rw [List.getElem?_append_left (List.getElem?_eq_some_iff.1 hj).1]; exact hj
  rw [Nat.zero_add]
  simp [World.cell?,h,h0]
theorem fourth_block (w:World) (Z:Array Value) (ds:List Value):((w.alloc (.cells Z 64)).setRow w.heap.size ds.toArray).heap[w.heap.size]?=some (.cells ds.toArray 64 (0,0))∧Below w.heap.size w ((w.alloc (.cells Z 64)).setRow w.heap.size ds.toArray) :=
  ⟨setRow_heap _ _ _ _ _ _ (Go.MapKept.heap_alloc w _).1,((Below.refl _ w).alloc (Nat.le_refl _) _).trans (below_setRow _ _ _ (Nat.le_refl _))⟩
theorem below_keep {n B m ms:Nat} {w w':World} (h:Keep B [m,ms] w w') (hB:n≤B) (hm:n≤m) (hms:n≤ms):Below n w w' :=
  ⟨h.os,h.tape,h.output,h.size,fun k hk=>h.block k (by omega) (by simp; omega)⟩
theorem block_fact {W:World} {b:Nat} {cs:Array Value} {t:TypeId} {f:Nat × Nat} (h:W.heap[b]?=some (.cells cs t f)):b < W.heap.size:=(Array.getElem?_eq_some_iff.1 h).1
theorem alloc_at (W:World) (ds:List Value) (t:TypeId):∀ (j:Nat) v,ds[j]?=some v→(W.alloc (.cells ds.toArray t)).cell? ⟨W.heap.size,j,none⟩=some v:=fun j v hj=>by
  have h:=(Go.MapKept.heap_alloc W (.cells ds.toArray t)).1
  simp only [World.cell?]
  rw [h]
  simpa using hj
theorem wpList_best {ops:Array Oper} {rest:List Oper} {o:Oper} {a:Act} {Q:Exit→Act→World→Prop} {w w14:World} {Z:Array Value} (hop:o.op=Op.store 64 (.tmp 11) (.tmp 57)) (hg:o.guard=none) (hw:w=w14.alloc (.cells Z 64)) (hZ:Z.size=35)
    (hx:a.eval (.tmp 11)=.pointer (some ⟨w14.heap.size,0,none⟩)) (hy:a.eval (.tmp 57)=.agg (bestCells ⟨wBytes.toArray⟩ wIdb 0 1).toArray)
    (h:∀ W:World,W.heap[w14.heap.size]?=some (.cells (bestCells ⟨wBytes.toArray⟩ wIdb 0 1).toArray 64 (0,0))→Below w14.heap.size w14 W→wpList Tryz.prog ops Q rest (a.put o.dst undef) W):wpList Tryz.prog ops Q (o::rest) a w:=by
  subst hw
  refine wpList_store hg hop hx hy (store_row size64 (ds:=bestCells ⟨wBytes.toArray⟩ wIdb 0 1) (by kernel_rfl) (by kernel_rfl) (Go.MapKept.heap_alloc w14 _).1 hZ) ?_
  exact h _ (fourth_block w14 _ _).1 (fourth_block w14 _ _).2
end Go.Proofs.YtlkkebfjmbfgpaaGreatDoor.Ev

namespace Go.Proofs.YtlkkebfjmbfgpaaGreatDoor.Ev
open Go Go.RowKit Go.Maps Go.WideMaps Go.Sort
theorem gHead_at {W:World} {b1:Nat} (h:W.heap[b1]?=some (.cells gBlock.toArray 47 (0,0))):∀ (j:Nat) v,gHead[j]?=some v→W.cell? ⟨b1,0+j,none⟩=some v:=fun j v hj=>by
  have h0:gBlock[j]?=some v:=by unfold gBlock; rw [List.getElem?_append_left (List.getElem?_eq_some_iff.1 hj).1]; exact hj
  rw [Nat.zero_add]
  simp [World.cell?,h,h0]
set_option maxRecDepth 100000 in
set_option maxHeartbeats 12000000 in
theorem awake_true (w:World):Calls Tryz.prog 4 #[] w fun e w'=>e=.returned (.bool true)∧Below w.heap.size w w':=by
  go_enter Tryz.func4,Tryz.ntmps4
  go_wp2_with (first
    | (go_at_call 5; refine (root_nil _).mono ?_; rintro e w1 ⟨rfl,hb1⟩
       have hB0:Below w.heap.size w w1:=by first | exact hB0.trans (below_le hb1 hB0.size) | exact hb1)
    | (refine wpList_build rfl (t:=45) (ps:=#[(1,.tmp 13),(2,.tmp 14)]) rfl (by kernel_rfl) (build45g _) ?_; go_frame)
    | (refine wpList_build rfl (t:=47) (ps:=#[(0,.tmp 15)]) rfl (by kernel_rfl) (build47g _) ?_; go_frame)
    | (refine wpList_store rfl (t:=47) (x:=.tmp 1) (y:=.tmp 16) rfl rfl rfl (store_row size47 (ds:=gBlock) (by kernel_rfl) (by kernel_rfl) (Go.MapKept.heap_alloc _ _).1 rfl) ?_; go_frame))
  obtain ⟨b1,hb1'⟩:∃ b1,b1=w1.heap.size:=⟨_,rfl⟩
  rw [← hb1']
  generalize hW1:World.setRow _ _ _=W1
  have hg1:W1.heap[b1]?=some (.cells gBlock.toArray 47 (0,0)):=by rw [← hW1,hb1']; exact setRow_heap _ _ _ _ _ _ (Go.MapKept.heap_alloc w1 _).1
  have hle1:w.heap.size≤b1:=by rw [hb1']; exact hB0.size
  have hB1:Below w.heap.size w W1:=by rw [← hW1]; exact hB0.trans (((Below.refl _ w1).alloc hB0.size _).trans (below_setRow _ _ _ hle1))
  have hlt1:b1 < W1.heap.size:=(Array.getElem?_eq_some_iff.1 hg1).1
  clear hW1 hb1'
  refine wp_region_held_drew (S:=fun W=>W.heap[b1]?=some (.cells gBlock.toArray 47 (0,0))) (by kernel_rfl) hg1 fun hS=>?_
  refine wpAnyH_take (i:=0) (v:=.pointer (some ⟨b1,0,none⟩)) (fuel:=5) rfl (by kernel_rfl) (by kernel_rfl) (by kernel_rfl) (fun _ _ _ h=>h) (.inl ⟨rfl,fun W hW=>by go_simp⟩) hS ?_
  refine wpAnyH_take (i:=1) (v:=.agg gHead.toArray) (fuel:=4) rfl (by kernel_rfl) (by kernel_rfl) (by kernel_rfl) (fun _ _ _ h=>h) (.inl ⟨rfl,fun W hW=>exec_load (t:=45) (x:=.tmp 17) (ptr:=.pointer (some ⟨b1,0,none⟩)) (by kernel_rfl) (by kernel_rfl) (load_cellsL (ds:=gHead) size45 agg45 (by kernel_rfl) (gHead_at hW))⟩) hS ?_
  refine wpAnyH_ready (rs:=[2,4]) (by kernel_rfl) (by simp) ?_
  refine AllReadyH.cons rfl (fun K hK=>?callFirst) (AllReadyH.cons rfl (fun K hK=>?allocFirst) AllReadyH.nil)
  case' callFirst =>
    rw [if_pos (by kernel_rfl)]
    go_simp
    refine (full_call _).mono ?_
    rintro e W2 ⟨rfl,hb2⟩
    have hg2:W2.heap[b1]?=some (.cells gBlock.toArray 47 (0,0)):=(hb2.block b1 hlt1).trans hS
    refine hK _ _ hg2 fun _=>?_
    clear hK K
    refine wpAnyH_take (i:=3) (v:=.agg cfgCells.toArray) (fuel:=2) rfl (by kernel_rfl) (by kernel_rfl) (by kernel_rfl) (fun _ _ _ h=>h) (.inl ⟨rfl,fun W hW=>exec_build (t:=50) (ps:=#[(0,.tmp 18),(1,.tmp 19),(2,.const (.int .i64 1)),(3,.const (.int .i64 1)),(4,.const (.int .i64 1)),(5,.const (.int .i64 2)),(6,.const (.int .i64 4)),(7,.const (.int .i64 2))]) (by kernel_rfl) (by kernel_rfl) (build50c W)⟩) hg2 ?_
    refine wpAnyH_ready (rs:=[4]) (by kernel_rfl) (by simp) ?_
    refine AllReadyH.cons rfl (fun K hK=>?_) AllReadyH.nil
    rw [if_pos (by kernel_rfl)]
    go_simp
    obtain ⟨b2,hb2'⟩:∃ b2,b2=W2.heap.size:=⟨_,rfl⟩
    rw [← hb2']
    have hz2:W1.heap.size≤W2.heap.size:=hb2.size
    have hle2:w.heap.size≤b2:=by have:=hB1.size; omega
    have hne:b1≠b2:=by omega
    obtain ⟨W3,hW3⟩:∃ W3,W3=W2.alloc (Obj.cells Tryz.zeroCells50 50):=⟨_,rfl⟩
    rw [← hW3]
    have hz3:W3.heap[b2]?=some (.cells Tryz.zeroCells50 50 (0,0)):=by rw [hW3,hb2']; exact (Go.MapKept.heap_alloc W2 _).1
    have hg3:W3.heap[b1]?=some (.cells gBlock.toArray 47 (0,0)):=by rw [hW3]; exact ((Go.MapKept.heap_alloc W2 _).2 b1 (by omega)).trans hg2
    have hB3:Below w.heap.size w W3:=by
      rw [hW3]
      exact ((hB1.trans (below_drew _ _)).trans (below_le hb2 hB1.size)).trans ((Below.refl _ W2).alloc (by omega) _)
    clear hW3 hb2' hb2 hg2 hz2
    refine hK _ _ hg3 fun _=>?_
    clear hK K
    refine wpAnyH_ready (rs:=[5]) (by kernel_rfl) (by simp) ?_
    refine AllReadyH.cons rfl (fun K hK=>?_) AllReadyH.nil
    rw [if_pos (by kernel_rfl)]
    refine wp_storeVar (t:=50) (x:=.tmp 2) (y:=.tmp 20) (by kernel_rfl) (by kernel_rfl) (by kernel_rfl) (store_row size50 (ds:=cfgCells) (by kernel_rfl) (by kernel_rfl) hz3 (by kernel_rfl)) ?_
    have hg4:(W3.setRow b2 cfgCells.toArray).heap[b1]?=some (.cells gBlock.toArray 47 (0,0)):=(setRow_other _ _ _ _ hne).trans hg3
    have hc4:(W3.setRow b2 cfgCells.toArray).heap[b2]?=some (.cells cfgCells.toArray 50 (0,0)):=setRow_heap _ _ _ _ _ _ hz3
    have hB4:Below w.heap.size w (W3.setRow b2 cfgCells.toArray):=hB3.trans (below_setRow _ _ _ hle2)
    refine hK _ _ hg4 fun _=>?_
    clear hK K
    refine wpAnyH_done (by kernel_rfl) ?_ _
    go_simp
    generalize hW4:World.setRow _ _ _=W4 at *
    clear hW4 hz3 hg3 hB3
  case' allocFirst =>
    rw [if_pos (by kernel_rfl)]
    go_simp
    obtain ⟨b2,hb2'⟩:∃ b2,b2=W1.heap.size:=⟨_,rfl⟩
    rw [← hb2']
    obtain ⟨W2,hW2⟩:∃ W2,W2=(W1.alloc (Obj.cells Tryz.zeroCells50 50)).drew:=⟨_,rfl⟩
    rw [← hW2]
    have hle2:w.heap.size≤b2:=by have:=hB1.size; omega
    have hne:b1≠b2:=by omega
    have hz2:W2.heap[b2]?=some (.cells Tryz.zeroCells50 50 (0,0)):=by rw [hW2,hb2']; exact (Go.MapKept.heap_alloc W1 _).1
    have hg2:W2.heap[b1]?=some (.cells gBlock.toArray 47 (0,0)):=by rw [hW2]; exact ((Go.MapKept.heap_alloc W1 _).2 b1 hlt1).trans hg1
    have hB2:Below w.heap.size w W2:=by rw [hW2]; exact (hB1.trans ((Below.refl _ W1).alloc hB1.size _)).trans (below_drew _ _)
    clear hW2 hb2'
    refine hK _ _ hg2 fun _=>?_
    clear hK K
    refine wpAnyH_ready (rs:=[2]) (by kernel_rfl) (by simp) ?_
    refine AllReadyH.cons rfl (fun K hK=>?_) AllReadyH.nil
    rw [if_pos (by kernel_rfl)]
    go_simp
    refine (full_call _).mono ?_
    rintro e W3 ⟨rfl,hb3⟩
    have hg3:W3.heap[b1]?=some (.cells gBlock.toArray 47 (0,0)):=(hb3.block b1 (Array.getElem?_eq_some_iff.1 hg2).1).trans hg2
    have hz3:W3.heap[b2]?=some (.cells Tryz.zeroCells50 50 (0,0)):=(hb3.block b2 (Array.getElem?_eq_some_iff.1 hz2).1).trans hz2
    have hB3:Below w.heap.size w W3:=hB2.trans (below_le hb3 hB2.size)
    clear hb3 hz2 hg2 hB2
    refine hK _ _ hg3 fun _=>?_
    clear hK K
    refine wpAnyH_take (i:=3) (v:=.agg cfgCells.toArray) (fuel:=1) rfl (by kernel_rfl) (by kernel_rfl) (by kernel_rfl) (fun _ _ _ h=>h) (.inl ⟨rfl,fun W hW=>exec_build (t:=50) (ps:=#[(0,.tmp 18),(1,.tmp 19),(2,.const (.int .i64 1)),(3,.const (.int .i64 1)),(4,.const (.int .i64 1)),(5,.const (.int .i64 2)),(6,.const (.int .i64 4)),(7,.const (.int .i64 2))]) (by kernel_rfl) (by kernel_rfl) (build50c W)⟩) hg3 ?_
    refine wpAnyH_ready (rs:=[5]) (by kernel_rfl) (by simp) ?_
    refine AllReadyH.cons rfl (fun K hK=>?_) AllReadyH.nil
    rw [if_pos (by kernel_rfl)]
    refine wp_storeVar (t:=50) (x:=.tmp 2) (y:=.tmp 20) (by kernel_rfl) (by kernel_rfl) (by kernel_rfl) (store_row size50 (ds:=cfgCells) (by kernel_rfl) (by kernel_rfl) hz3 (by kernel_rfl)) ?_
    have hg4:(W3.setRow b2 cfgCells.toArray).heap[b1]?=some (.cells gBlock.toArray 47 (0,0)):=(setRow_other _ _ _ _ hne).trans hg3
    have hc4:(W3.setRow b2 cfgCells.toArray).heap[b2]?=some (.cells cfgCells.toArray 50 (0,0)):=setRow_heap _ _ _ _ _ _ hz3
    have hB4:Below w.heap.size w (W3.setRow b2 cfgCells.toArray):=hB3.trans (below_setRow _ _ _ hle2)
    refine hK _ _ hg4 fun _=>?_
    clear hK K
    refine wpAnyH_done (by kernel_rfl) ?_ _
    go_simp
    generalize hW4:World.setRow _ _ _=W4 at *
    clear hW4 hz3 hg3 hB3
  all_goals
    have hn:¬ 9223372036854775807 < 1+wIdg.length:=by decide
    go_wp2_with (first
      | (refine wpList_load rfl (t:=45) (x:=.tmp 21) (ptr:=.pointer (some ⟨b1,0,none⟩)) (v:=.agg gHead.toArray) rfl rfl (load_cellsL size45 agg45 (by kernel_rfl) (gHead_at hg4)) ?_; go_frame)
      | (go_at_call 12; refine (id_g _).mono ?_; rintro e w5 ⟨rfl,hb5⟩)
      | (go_at_call 11; refine (text_g _).mono ?_; rintro e w6 ⟨rfl,hb6⟩)
      | (go_at_call 5; refine (root_L (by rw [cell_new1]; exact congrArg (fun s=>some (Value.string s)) leaf76)).mono ?_; rintro e w7 ⟨rfl,hb7⟩)
      | (go_at_call 5; refine (root_T (by rw [cell_new1])).mono ?_; rintro e w8 ⟨rfl,hb8⟩
         have hB8:Below w.heap.size w w8:=by
           have z0:=hB4.size; have z5:=hb5.size; have z6:=hb6.size; have z7:=hb7.size
           simp at z7
           exact (((hB4.trans (below_le hb5 z0)).trans (below_le hb6 (by omega))).trans (((Below.refl _ w6).alloc (by omega) _).trans (below_le hb7 (by simp; omega)))).trans (((Below.refl _ w7).alloc (by omega) _).trans (below_le hb8 (by simp; omega)))
         have hB48:Below W4.heap.size W4 w8:=by
           have z5:=hb5.size; have z6:=hb6.size; have z7:=hb7.size
           simp at z7
           exact ((hb5.trans (below_le hb6 (by omega))).trans (((Below.refl _ w6).alloc (by omega) _).trans (below_le hb7 (by simp; omega)))).trans (((Below.refl _ w7).alloc (by omega) _).trans (below_le hb8 (by simp; omega))))
      | (refine wpList_build rfl (t:=45) (ps:=#[(0,.const (.int .u32 1)),(1,.tmp 27),(2,.tmp 29)]) rfl (by kernel_rfl) (build45b _) ?_; go_frame)
      | (refine wpList_build rfl (t:=47) (ps:=#[(0,.tmp 30),(1,.tmp 31)]) rfl (by kernel_rfl) (build47b w8.heap.size _) ?_; go_frame)
      | (refine wpList_store rfl (t:=47) (x:=.tmp 3) (y:=.tmp 32) rfl rfl rfl (store_row size47 (ds:=bBlock w8.heap.size) (by kernel_rfl) (by kernel_rfl) (by have:=(Go.MapKept.heap_alloc (w8.alloc (.cells #[.string ⟨#[97]⟩] 9)) (.cells Tryz.zeroCells47 47)).1; simpa using this) (by kernel_rfl)) ?_; go_frame
         obtain ⟨W9,hW9,hc9,hb9,-,hB9⟩:=third_block w8
         rw [← hW9]
         clear hW9
         have hz48:=hB48.size
         have hgg9:W9.heap[b1]?=some (.cells gBlock.toArray 47 (0,0)):=(hB9.block b1 (by have:=block_fact hg4; omega)).trans ((hB48.block b1 (block_fact hg4)).trans hg4)
         have hcc9:W9.heap[b2]?=some (.cells cfgCells.toArray 50 (0,0)):=(hB9.block b2 (by have:=block_fact hc4; omega)).trans ((hB48.block b2 (block_fact hc4)).trans hc4))
      | (refine wpList_load rfl (t:=50) (x:=.tmp 2) (ptr:=.pointer (some ⟨b2,0,none⟩)) (v:=.agg cfgCells.toArray) rfl rfl (load_any size50 agg50 (by kernel_rfl) (cells_add hcc9)) ?_; go_frame)
      | (refine wpList_load rfl (t:=47) (x:=.tmp 1) (ptr:=.pointer (some ⟨b1,0,none⟩)) (v:=.agg gBlock.toArray) rfl rfl (load_any size47 agg47 (by kernel_rfl) (cells_add hgg9)) ?_; go_frame)
      | (refine wpList_load rfl (t:=47) (x:=.tmp 3) (ptr:=.pointer (some ⟨w8.heap.size+1,0,none⟩)) (v:=.agg (bBlock w8.heap.size).toArray) rfl rfl (load_any size47 agg47 (by kernel_rfl) (cells_add hb9)) ?_; go_frame)
      | (refine wpList_buildSlice rfl (t:=56) (n:=2) (ps:=#[(0,.tmp 35),(1,.tmp 36)]) rfl (by kernel_rfl) (build56 w8.heap.size _) ?_; go_frame)
      | (go_at_call 13; refine (prove_call (g:=w8.heap.size) ((World.cell?_alloc_lt _ _ _ (World.block_lt_of_cell? _ _ hc9)).trans hc9) (alloc_at _ _ _) (Nat.ne_of_lt (World.block_lt_of_cell? _ _ hc9))).mono ?_; rintro e w10 ⟨S10,v10,rfl,hS10,hv10,hb10⟩
         have hB10:Below W9.heap.size W9 w10:=((Below.refl _ W9).alloc (Nat.le_refl _) _).trans (below_le hb10 (by simp)))
      | (go_at_call 14; refine (encodeTwo hS10 hv10).mono ?_; rintro e w11 ⟨rfl,hb11⟩
         have hB11:Below W9.heap.size W9 w11:=hB10.trans (below_le hb11 hB10.size)
         have hcc11:w11.heap[b2]?=some (.cells cfgCells.toArray 50 (0,0)):=(hB11.block b2 (block_fact hcc9)).trans hcc9)
      | (refine wpList_load rfl (t:=50) (x:=.tmp 2) (ptr:=.pointer (some ⟨b2,0,none⟩)) (v:=.agg cfgCells.toArray) rfl rfl (load_any size50 agg50 (by kernel_rfl) (cells_add hcc11)) ?_; go_frame)
      | (go_at_call 15; refine (new_call _).mono ?_; rintro e w12 ⟨p,q,m,ms,rfl,hs12,hm12,hms12,hb12⟩
         have hB12:Below W9.heap.size W9 w12:=hB11.trans (below_le hb12 hB11.size))
      | (go_at_call 16; refine (submit_call hs12).mono ?_; rintro e w13 ⟨rfl,S13,v13,a13,c13,hs13,hv13,hside13,hS13,hk13⟩
         have hB13:Below W9.heap.size W9 w13:=hB12.trans (below_keep hk13 hB12.size (Nat.le_trans hB11.size hm12) (Nat.le_trans hB11.size hms12)))
      | (go_at_call 17; refine (decide_call hs13 hv13 hside13 hS13).mono ?_; rintro e w14 ⟨rfl,hb14⟩
         have hB14:Below W9.heap.size W9 w14:=hB13.trans (below_le hb14 hB13.size))
      | (refine wpList_best (w14:=w14) (by rfl) rfl rfl rfl (by kernel_rfl) (by kernel_rfl) ?_
         intro W15 hd15 hB15
         go_frame
         have ht15:W15.heap[w8.heap.size+1]?=some (.cells (bBlock w8.heap.size).toArray 47 (0,0)):=(hB15.block _ (Nat.lt_of_lt_of_le (block_fact hb9) hB14.size)).trans ((hB14.block _ (block_fact hb9)).trans hb9)
         have hBw15:Below w.heap.size w W15:=((hB8.trans (below_le hB9 hB8.size)).trans (below_le hB14 (by have:=hB8.size; have:=hB9.size; omega))).trans (below_le hB15 (by have:=hB8.size; have:=hB9.size; have:=hB14.size; omega))))
    refine wp_region_held_drew (S:=fun W=>W.heap[w14.heap.size]?=some (.cells (bestCells ⟨wBytes.toArray⟩ wIdb 0 1).toArray 64 (0,0))∧W.heap[w8.heap.size+1]?=some (.cells (bBlock w8.heap.size).toArray 47 (0,0))∧Below w.heap.size w W) (by kernel_rfl) ⟨hd15,ht15,hBw15.trans (below_drew _ _)⟩ fun hS=>?_
    refine wpAnyH_take (i:=0) (v:=.int .i64 0) (fuel:=29) rfl (by kernel_rfl) (by kernel_rfl) (by kernel_rfl) (fun _ _ _ h=>h) (.inl ⟨by kernel_rfl,fun W hW=>by kernel_rfl⟩) hS ?_
    refine wpAnyH_take (i:=1) (v:=.bool true) (fuel:=28) rfl (by kernel_rfl) (by kernel_rfl) (by kernel_rfl) (fun _ _ _ h=>h) (.inl ⟨by kernel_rfl,fun W hW=>by kernel_rfl⟩) hS ?_
    refine wpAnyH_take (i:=2) (v:=.bool true) (fuel:=27) rfl (by kernel_rfl) (by kernel_rfl) (by kernel_rfl) (fun _ _ _ h=>h) (.inl ⟨by kernel_rfl,fun W hW=>by kernel_rfl⟩) hS ?_
    refine wpAnyH_take (i:=3) (v:=.int .i64 0) (fuel:=26) rfl (by kernel_rfl) (by kernel_rfl) (by kernel_rfl) (fun _ _ _ h=>h) (.inl ⟨by kernel_rfl,fun W hW=>by kernel_rfl⟩) hS ?_
    refine wpAnyH_take (i:=4) (v:=.bool true) (fuel:=25) rfl (by kernel_rfl) (by kernel_rfl) (by kernel_rfl) (fun _ _ _ h=>h) (.inl ⟨by kernel_rfl,fun W hW=>by kernel_rfl⟩) hS ?_
    refine wpAnyH_take (i:=5) (v:=.bool true) (fuel:=24) rfl (by kernel_rfl) (by kernel_rfl) (by kernel_rfl) (fun _ _ _ h=>h) (.inl ⟨by kernel_rfl,fun W hW=>by kernel_rfl⟩) hS ?_
    refine wpAnyH_take (i:=6) (v:=.bool true) (fuel:=23) rfl (by kernel_rfl) (by kernel_rfl) (by kernel_rfl) (fun _ _ _ h=>h) (.inl ⟨by kernel_rfl,fun W hW=>by kernel_rfl⟩) hS ?_
    refine wpAnyH_take (i:=7) (v:=.bool true) (fuel:=22) rfl (by kernel_rfl) (by kernel_rfl) (by kernel_rfl) (fun _ _ _ h=>h) (.inl ⟨by kernel_rfl,fun W hW=>by kernel_rfl⟩) hS ?_
    refine wpAnyH_take (i:=8) (v:=.bool true) (fuel:=21) rfl (by kernel_rfl) (by kernel_rfl) (by kernel_rfl) (fun _ _ _ h=>h) (.inl ⟨by kernel_rfl,fun W hW=>by kernel_rfl⟩) hS ?_
    refine wpAnyH_take (i:=9) (v:=.bool true) (fuel:=20) rfl (by kernel_rfl) (by kernel_rfl) (by kernel_rfl) (fun _ _ _ h=>h) (.inl ⟨by kernel_rfl,fun W hW=>by kernel_rfl⟩) hS ?_
    refine wpAnyH_take (i:=10) (v:=.int .i64 0) (fuel:=19) rfl (by kernel_rfl) (by kernel_rfl) (by kernel_rfl) (fun _ _ _ h=>h) (.inl ⟨by kernel_rfl,fun W hW=>by kernel_rfl⟩) hS ?_
    refine wpAnyH_take (i:=11) (v:=.bool true) (fuel:=18) rfl (by kernel_rfl) (by kernel_rfl) (by kernel_rfl) (fun _ _ _ h=>h) (.inl ⟨by kernel_rfl,fun W hW=>by kernel_rfl⟩) hS ?_
    refine wpAnyH_take (i:=12) (v:=.bool true) (fuel:=17) rfl (by kernel_rfl) (by kernel_rfl) (by kernel_rfl) (fun _ _ _ h=>h) (.inl ⟨by kernel_rfl,fun W hW=>by kernel_rfl⟩) hS ?_
    refine wpAnyH_take (i:=13) (v:=.bool true) (fuel:=16) rfl (by kernel_rfl) (by kernel_rfl) (by kernel_rfl) (fun _ _ _ h=>h) (.inl ⟨by kernel_rfl,fun W hW=>by kernel_rfl⟩) hS ?_
    refine wpAnyH_take (i:=14) (v:=.int .i64 0) (fuel:=15) rfl (by kernel_rfl) (by kernel_rfl) (by kernel_rfl) (fun _ _ _ h=>h) (.inl ⟨by kernel_rfl,fun W hW=>by kernel_rfl⟩) hS ?_
    refine wpAnyH_take (i:=15) (v:=.bool true) (fuel:=14) rfl (by kernel_rfl) (by kernel_rfl) (by kernel_rfl) (fun _ _ _ h=>h) (.inl ⟨by kernel_rfl,fun W hW=>by kernel_rfl⟩) hS ?_
    refine wpAnyH_take (i:=16) (v:=.bool true) (fuel:=13) rfl (by kernel_rfl) (by kernel_rfl) (by kernel_rfl) (fun _ _ _ h=>h) (.inl ⟨by kernel_rfl,fun W hW=>by kernel_rfl⟩) hS ?_
    refine wpAnyH_take (i:=17) (v:=.bool true) (fuel:=12) rfl (by kernel_rfl) (by kernel_rfl) (by kernel_rfl) (fun _ _ _ h=>h) (.inl ⟨by kernel_rfl,fun W hW=>by kernel_rfl⟩) hS ?_
    refine wpAnyH_take (i:=18) (v:=.pointer (some ⟨w14.heap.size,1,none⟩)) (fuel:=11) rfl (by kernel_rfl) (by kernel_rfl) (by kernel_rfl) (fun _ _ _ h=>h) (.inl ⟨by kernel_rfl,fun W hW=>by kernel_rfl⟩) hS ?_
    refine wpAnyH_take (i:=19) (v:=blobV wIdb) (fuel:=10) rfl (by kernel_rfl) (by kernel_rfl) (by kernel_rfl) (fun _ _ _ h=>h) (.inl ⟨by kernel_rfl,fun W hW=>exec_load (t:=32) (x:=.tmp 77) (ptr:=.pointer (some ⟨w14.heap.size,1,none⟩)) (by kernel_rfl) (by kernel_rfl) (best_tip hW.1)⟩) hS ?_
    refine wpAnyH_take (i:=20) (v:=.pointer (some ⟨w8.heap.size+1,0,none⟩)) (fuel:=9) rfl (by kernel_rfl) (by kernel_rfl) (by kernel_rfl) (fun _ _ _ h=>h) (.inl ⟨by kernel_rfl,fun W hW=>by kernel_rfl⟩) hS ?_
    refine wpAnyH_take (i:=21) (v:=.agg bHead.toArray) (fuel:=8) rfl (by kernel_rfl) (by kernel_rfl) (by kernel_rfl) (fun _ _ _ h=>h) (.inl ⟨by kernel_rfl,fun W hW=>exec_load (t:=45) (x:=.tmp 79) (ptr:=.pointer (some ⟨w8.heap.size+1,0,none⟩)) (by kernel_rfl) (by kernel_rfl) (load_cellsL size45 agg45 (by kernel_rfl) (bHead_at hW.2.1))⟩) hS ?_
    refine wpAnyH_ready (rs:=[22]) (by kernel_rfl) (by simp) ?_
    refine AllReadyH.cons rfl (fun K hK=>?_) AllReadyH.nil
    rw [if_pos (by kernel_rfl)]
    go_simp
    refine (id_b _).mono ?_
    rintro e w16 ⟨rfl,hb16⟩
    have hS16:w16.heap[w14.heap.size]?=some (.cells (bestCells ⟨wBytes.toArray⟩ wIdb 0 1).toArray 64 (0,0))∧w16.heap[w8.heap.size+1]?=some (.cells (bBlock w8.heap.size).toArray 47 (0,0))∧Below w.heap.size w w16:=⟨(hb16.block _ (block_fact hS.1)).trans hS.1,(hb16.block _ (block_fact hS.2.1)).trans hS.2.1,hS.2.2.trans (below_le hb16 hS.2.2.size)⟩
    refine hK _ _ hS16 fun _=>?_
    clear hK K
    refine wpAnyH_take (i:=23) (v:=.bool true) (fuel:=6) rfl (by kernel_rfl) (by kernel_rfl) (by kernel_rfl) (fun _ _ _ h=>h) (.inl ⟨by kernel_rfl,fun W hW=>by kernel_rfl⟩) hS16 ?_
    refine wpAnyH_take (i:=24) (v:=.bool true) (fuel:=5) rfl (by kernel_rfl) (by kernel_rfl) (by kernel_rfl) (fun _ _ _ h=>h) (.inl ⟨by kernel_rfl,fun W hW=>by kernel_rfl⟩) hS16 ?_
    refine wpAnyH_take (i:=25) (v:=.bool true) (fuel:=4) rfl (by kernel_rfl) (by kernel_rfl) (by kernel_rfl) (fun _ _ _ h=>h) (.inl ⟨by kernel_rfl,fun W hW=>by kernel_rfl⟩) hS16 ?_
    refine wpAnyH_ready (rs:=[26]) (by kernel_rfl) (by simp) ?_
    refine AllReadyH.cons rfl (fun K hK=>?_) AllReadyH.nil
    rw [if_pos (by kernel_rfl)]
    go_simp
    refine (deskPlay _).mono ?_
    rintro e w17 ⟨rfl,hb17⟩
    have hS17:w17.heap[w14.heap.size]?=some (.cells (bestCells ⟨wBytes.toArray⟩ wIdb 0 1).toArray 64 (0,0))∧w17.heap[w8.heap.size+1]?=some (.cells (bBlock w8.heap.size).toArray 47 (0,0))∧Below w.heap.size w w17:=⟨(hb17.block _ (block_fact hS16.1)).trans hS16.1,(hb17.block _ (block_fact hS16.2.1)).trans hS16.2.1,hS16.2.2.trans (below_le hb17 hS16.2.2.size)⟩
    refine hK _ _ hS17 fun _=>?_
    clear hK K
    refine wpAnyH_take (i:=27) (v:=.bool true) (fuel:=2) rfl (by kernel_rfl) (by kernel_rfl) (by kernel_rfl) (fun _ _ _ h=>h) (.inl ⟨by kernel_rfl,fun W hW=>by kernel_rfl⟩) hS17 ?_
    refine wpAnyH_take (i:=28) (v:=.bool true) (fuel:=1) rfl (by kernel_rfl) (by kernel_rfl) (by kernel_rfl) (fun _ _ _ h=>h) (.inl ⟨by kernel_rfl,fun W hW=>by kernel_rfl⟩) hS17 ?_
    refine wpAnyH_take (i:=29) (v:=.bool true) (fuel:=0) rfl (by kernel_rfl) (by kernel_rfl) (by kernel_rfl) (fun _ _ _ h=>h) (.inl ⟨by kernel_rfl,fun W hW=>by kernel_rfl⟩) hS17 ?_
    refine wpAnyH_done (by kernel_rfl) ?_ _
    go_simp
    go_wp2
    exact bodyPost_ret (results_tmp rfl _ _ _) rfl ⟨rfl,hS17.2.2⟩
end Go.Proofs.YtlkkebfjmbfgpaaGreatDoor.Ev

namespace Go.Proofs.YtlkkebfjmbfgpaaGreatDoor.Ev
open Go Go.RowKit
theorem blob32_of {l:List AV} (h:∀ (i:Nat) y,l[i]?=some y→(Ty.blob 32).Has y):Blob32 l:=by
  intro y hy
  obtain ⟨i,hi,rfl⟩:=List.getElem_of_mem hy
  obtain ⟨b,hb,hl⟩:=h i _ (List.getElem?_eq_getElem hi)
  exact ⟨b,hb,hl⟩
theorem short_of {l:List AV} (h:∀ (i:Nat) y,l[i]?=some y→Ty.str.Has y):Short l:=by
  intro i hi
  obtain ⟨s,hs,hl⟩:=h i _ (List.getElem?_eq_getElem hi)
  rw [nth_lt hi,hs]
  unfold reachBytes at hl
  show s.length≤_
  omega
end Go.Proofs.YtlkkebfjmbfgpaaGreatDoor.Ev

namespace Go.Proofs.YtlkkebfjmbfgpaaGreatDoor.Ev
open Go Go.RowKit
def pathV:Nat→List AV→Int→List AV
  | 0,_,_=>[]
  | k+1,l,i=>if l.length < 2 then [] else
    if i < leftV l.length then pathV k (l.take (leftV l.length).toNat) i++[.blob (topV (l.length-(leftV l.length).toNat) (l.drop (leftV l.length).toNat))]
    else pathV k (l.drop (leftV l.length).toNat) (i-leftV l.length)++[.blob (topV (leftV l.length).toNat (l.take (leftV l.length).toNat))]
theorem pathV_len:∀ (k:Nat) (l:List AV) (i:Int),(pathV k l i).length≤k
  | 0,_,_=>Nat.le_refl _
  | k+1,l,i=>by
    simp only [pathV]
    split
    · simp
    · split
      · have:=pathV_len k (l.take (leftV l.length).toNat) i
        simp; omega
      · have:=pathV_len k (l.drop (leftV l.length).toNat) (i-leftV l.length)
        simp; omega
theorem refPath_runs:∀ (k:Nat) (l:List AV) (i:Int),l.length≤k→k≤100000→0≤i→i < l.length→Blob32 l→RunsX 22 [.slice l,.int i] ⟨[.slice (pathV k l i)],[],true⟩
  | 0,l,i,hk,_,h0,h1,_=>by omega
  | k+1,l,i,hk,hk2,h0,h1,h=>by
    simp only [pathV]
    by_cases h2:l.length < 2
    · refine Evt.succ (.of fun n=>?_)
      rw [if_pos h2,f22_run,f22_eq,eqI_t (by omega)]; rfl
    · rw [if_neg h2]
      obtain ⟨p1,p2⟩:=leftV_range (n:=(l.length:Int)) (by omega)
      have pe:(leftV (l.length:Int))=(((leftV (l.length:Int)).toNat:Nat):Int):=by omega
      have hL:=fun m hm=>refLeft_at m hm (n:=(l.length:Int)) (by omega)
      generalize (leftV (l.length:Int)).toNat=p at pe
      rw [pe] at hL p1 p2 ⊢
      have la:(l.take p).length=p:=by simp; omega
      have lb:(l.drop p).length=l.length-p:=by simp
      have ha:Blob32 (l.take p):=fun y hy=>h y (List.mem_of_mem_take hy)
      have hb:Blob32 (l.drop p):=fun y hy=>h y (List.mem_of_mem_drop hy)
      have b1:boundsOk 0 (p:Int) (l.length:Int) (l.length:Int)=true:=by simp [boundsOk]; omega
      have b2:boundsOk (p:Int) (l.length:Int) (l.length:Int) (l.length:Int)=true:=by simp [boundsOk]; omega
      by_cases hi:i < (p:Int)
      · rw [if_pos hi]
        have r1:=refPath_runs k (l.take p) i (by omega) (by omega) h0 (by omega) ha
        have r2:=refTop_runs (l.length-p) (l.drop p) (by omega) (by omega) hb
        have t:=pathV_len k (l.take p) i
        generalize pathV k (l.take p) i=x at r1 t
        refine Evt.succ (((r1.and r2).and (Evt.ge 200)).mono fun n hn=>?_)
        obtain ⟨⟨g1,g2⟩,g3⟩:=hn
        obtain ⟨m,rfl⟩:∃ m,n=m+1:=⟨n-1,by omega⟩
        rw [f22_run,f22_eq,eqI_f (by omega),cond_false,hL m (by omega),step1,toInt_i,ltI_t hi,cond_true,b1,b2,Int.toNat_natCast,Int.toNat_natCast,List.drop_zero,List.take_length,Bool.and_true,cond_true,g1,step1f,cond_true,g2,step1,toSlice_s,show Nat.ble ((x.length+1)*32) 140737488355328=true from Nat.ble_eq_true_of_le (by omega),cond_true]
        rfl
      · rw [if_neg hi]
        have r1:=refPath_runs k (l.drop p) (i-p) (by omega) (by omega) (by omega) (by omega) hb
        have r2:=refTop_runs p (l.take p) (by omega) (by omega) ha
        have t:=pathV_len k (l.drop p) (i-p)
        generalize pathV k (l.drop p) (i-p)=x at r1 t
        refine Evt.succ (((r1.and r2).and (Evt.ge 200)).mono fun n hn=>?_)
        obtain ⟨⟨g1,g2⟩,g3⟩:=hn
        obtain ⟨m,rfl⟩:∃ m,n=m+1:=⟨n-1,by omega⟩
        rw [f22_run,f22_eq,eqI_f (by omega),cond_false,hL m (by omega),step1,toInt_i,ltI_f hi,cond_false,b1,b2,Int.toNat_natCast,Int.toNat_natCast,List.drop_zero,List.take_length,Bool.and_true,cond_true,w64 (x:=i-p) (by omega) (by omega),g1,step1f,cond_true,g2,step1,toSlice_s,show Nat.ble ((x.length+1)*32) 140737488355328=true from Nat.ble_eq_true_of_le (by omega),cond_true]
        rfl
theorem sidesV_len:∀ (k:Nat) (n i:Int),(sidesV k n i).length≤k
  | 0,_,_=>Nat.le_refl _
  | k+1,n,i=>by
    simp only [sidesV]
    split
    · simp
    · split
      · have:=sidesV_len k (leftV n) i
        simp; omega
      · have:=sidesV_len k (n-leftV n) (i-leftV n)
        simp; omega
theorem path_sides:∀ (k:Nat) (l:List AV) (i:Int),l.length≤k→(pathV k l i).length=(sidesV k (l.length:Int) i).length
  | 0,_,_,_=>rfl
  | k+1,l,i,hk=>by
    simp only [pathV,sidesV]
    by_cases h2:l.length < 2
    · rw [if_pos h2,if_pos (show (l.length:Int) < 2 by omega)]
    · obtain ⟨p1,p2⟩:=leftV_range (n:=(l.length:Int)) (by omega)
      rw [if_neg h2,if_neg (show ¬ (l.length:Int) < 2 by omega)]
      have la:(((l.take (leftV (l.length:Int)).toNat).length:Nat):Int)=leftV (l.length:Int):=by rw [List.length_take]; omega
      have lb:(((l.drop (leftV (l.length:Int)).toNat).length:Nat):Int)=(l.length:Int)-leftV (l.length:Int):=by rw [List.length_drop]; omega
      by_cases hi:i < leftV (l.length:Int)
      · have:=path_sides k (l.take (leftV (l.length:Int)).toNat) i (by omega)
        rw [la] at this
        simp only [if_pos hi,List.length_append,this]
        rfl
      · have:=path_sides k (l.drop (leftV (l.length:Int)).toNat) (i-leftV (l.length:Int)) (by omega)
        rw [lb] at this
        simp only [if_neg hi,List.length_append,this]
        rfl
def openV (l:List AV) (i:Int):List AV :=
  if i < 0∨(l.length:Int)≤i then [.agg [.int 0,.int 0,.slice []],.int 3] else [.agg [.int i,.int (l.length:Int),.slice (pathV l.length (leavesV l) i)],.int 0]
theorem refOpen_runs {l:List AV} {i:Int} (hl:l.length≤100000) (hs:Short l):RunsX 6 [.slice l,.int i] ⟨openV l i,[],false⟩:=by
  unfold openV
  by_cases h0:i < 0
  · refine Evt.succ (.of fun n=>?_)
    rw [if_pos (.inl h0),f6_run,f6_eq,ltI_f (by omega),ltI_t h0]; rfl
  · by_cases h1:(l.length:Int)≤i
    · refine Evt.succ (.of fun n=>?_)
      rw [if_pos (.inr h1),f6_run,f6_eq,ltI_f (by omega),ltI_f h0,leI_t h1]; rfl
    · have r1:=refLeaves_runs hl hs
      have r2:=refPath_runs l.length (leavesV l) i (by rw [leavesV_len]; omega) (by omega) (by omega) (by rw [leavesV_len]; omega) (leavesV_blob l)
      refine Evt.succ ((r1.and r2).mono fun n hn=>?_)
      rw [if_neg (by omega),f6_run,f6_eq,ltI_f (by omega),ltI_f h0,leI_f h1,cond_false,cond_false,cond_false,hn.1,step1f,toSlice_s,hn.2,step1f,toSlice_s]
      rfl
end Go.Proofs.YtlkkebfjmbfgpaaGreatDoor.Ev

namespace Go.Proofs.YtlkkebfjmbfgpaaGreatDoor.Ev
open Go Go.RowKit
def stepH (z:AV × AV) (a:List UInt8):List UInt8:=if z.1.toBool then nodeH z.2.toBlob a else nodeH a z.2.toBlob
def climb (Z:List (AV × AV)) (a:List UInt8):List UInt8:=Z.foldl (fun a z=>stepH z a) a
theorem climb_snoc (Z:List (AV × AV)) (z:AV × AV) (a:List UInt8):climb (Z++[z]) a=stepH z (climb Z a):=by simp [climb]
theorem stepH_len (z:AV × AV) (a:List UInt8):(stepH z a).length=32:=by unfold stepH; split <;> exact hashV_len _
theorem climb_len:∀ (Z:List (AV × AV)) {a:List UInt8},a.length=32→(climb Z a).length=32
  | [],_,h=>h
  | z::Z,a,_=>climb_len Z (stepH_len z a)
def upsV (Z:List (AV × AV)) (a:List UInt8) (j:Nat):List AV:=(List.range (j+1)).map fun i=>.blob (climb (Z.take i) a)
theorem upsV_succ (Z:List (AV × AV)) (a:List UInt8) (j:Nat):upsV Z a (j+1)=upsV Z a j++[.blob (climb (Z.take (j+1)) a)]:=by simp [upsV,List.range_succ]
theorem upsV_len (Z:List (AV × AV)) (a:List UInt8) (j:Nat):(upsV Z a j).length=j+1:=by simp [upsV]
theorem upsV_nth (Z:List (AV × AV)) (a:List UInt8) {i j:Nat} (h:i≤j):nth (upsV Z a j) i=.blob (climb (Z.take i) a):=by
  rw [nth_lt (by rw [upsV_len]; omega)]
  simp [upsV]
theorem climb_take {S P:List AV} (a:List UInt8) (h:S.length=P.length) {i:Nat} (hi:i < S.length):climb ((S.zip P).take (i+1)) a=stepH (nth S i,nth P i) (climb ((S.zip P).take i) a):=by
  have hz:i < (S.zip P).length:=by rw [List.length_zip]; omega
  rw [List.take_succ_eq_append_getElem hz,climb_snoc,List.getElem_zip,nth_lt hi,nth_lt (by omega)]
theorem blobAt {l:List AV} (h:Blob32 l) {i:Nat} (hi:i < l.length):(nth l i).toBlob.length=32:=by
  obtain ⟨b,hb,hl⟩:=h l[i] (List.getElem_mem hi)
  rw [nth_lt hi,hb]; exact hl
def mayH (i n:Int) (P:List AV):Int:=if n < 1∨1048576 < n∨i < 0∨n≤i then 3 else if (P.length:Int)=((sidesV n.toNat n i).length:Int) then 0 else 2
def waysH (i n:Int) (P:List AV):List (AV × AV):=(sidesV n.toNat n i).zip P
def toldH (s:List UInt8) (i n:Int) (P:List AV):List UInt8:=if mayH i n P=0 then rootH n.toNat (climb (waysH i n P) (leafH s)) else zero32
def checkH (root s:List UInt8) (i n:Int) (P:List AV):Bool:=bif eqI (mayH i n P) 0 then eqS (toldH s i n P) root else false
def Op (i n:Int) (P:List AV):AV:=.agg [.int i,.int n,.slice P]
theorem mayH_in {i n:Int} {P:List AV} (h:mayH i n P=0):1≤n∧n≤1048576∧0≤i∧i < n∧P.length=(sidesV n.toNat n i).length:=by
  unfold mayH at h
  split at h
  · cases h
  · split at h
    · rename_i h1 h2
      omega
    · cases h
theorem sides_at (m:Nat) {n i:Int} (h0:0≤i) (h1:i < n) (h2:n≤1048576):runE G ext m 55 [.int n,.int i]=some ⟨[.slice (sidesV n.toNat n i)],[],true⟩:=by
  refine ext_at ?_ m
  show (bif leI n 1048576 then some (⟨[.slice (bif leI 0 i&&ltI i n then sidesV n.toNat n i else [])],[],true⟩:Res) else none)=_
  rw [leI_t h2,leI_t h0,ltI_t h1]
  rfl
theorem may_runs (i n:Int) (P:List AV):RunsX 57 [.agg [.int i,.int n,.slice P]] ⟨[.int (mayH i n P)],[],false⟩:=by
  unfold mayH
  by_cases h1:n < 1
  · refine Evt.succ (.of fun m=>?_)
    rw [if_pos (.inl h1),f57_run,f57_eq,ltI_t h1]; rfl
  by_cases h2:1048576 < n
  · refine Evt.succ (.of fun m=>?_)
    rw [if_pos (.inr (.inl h2)),f57_run,f57_eq,ltI_f h1,ltI_t h2]; rfl
  by_cases h3:i < 0
  · refine Evt.succ (.of fun m=>?_)
    rw [if_pos (.inr (.inr (.inl h3))),f57_run,f57_eq,ltI_f h1,ltI_f h2,ltI_t h3]; rfl
  by_cases h4:n≤i
  · refine Evt.succ (.of fun m=>?_)
    rw [if_pos (.inr (.inr (.inr h4))),f57_run,f57_eq,ltI_f h1,ltI_f h2,ltI_f h3,leI_t h4]; rfl
  refine Evt.succ ((Evt.ge 1).mono fun m hm=>?_)
  obtain ⟨m,rfl⟩:∃ j,m=j+1:=⟨m-1,by omega⟩
  rw [if_neg (by omega),f57_run,f57_eq,ltI_f h1,ltI_f h2,ltI_f h3,leI_f h4,cond_false,cond_false,cond_false,cond_false,f109_run,f109_eq,ltI_f h3,leI_f h4,cond_false,cond_false,sides_at m (by omega) (by omega) (by omega),step1f,step1,toSlice_s,toInt_i]
  by_cases h5:(P.length:Int)=((sidesV n.toNat n i).length:Int)
  · rw [eqI_t h5,if_pos h5]; rfl
  · rw [eqI_f h5,if_neg h5]; rfl
theorem up_runs {s:List UInt8} {i n:Int} {P:List AV} (hs:s.length≤140737488355328) (hb:Blob32 P):RunsX 51 [.str s,.agg [.int i,.int n,.slice P]] ⟨[.slice (if mayH i n P=0 then upsV (waysH i n P) (leafH s) P.length else [])],[],true⟩:=by
  by_cases hm:mayH i n P=0
  · obtain ⟨g1,g2,g3,g4,g5⟩:=mayH_in hm
    have r1:=may_runs i n P
    have r2:=leafSum_runs hs
    rw [if_pos hm]
    rw [hm] at r1
    have hk:=sidesV_len n.toNat n i
    unfold waysH
    have ha:(leafH s).length=32:=hashV_len _
    have hall:=Evt.all P.length fun j hj=>(nodeSum_runs (blobAt hb hj) (climb_len (((sidesV n.toNat n i).zip P).take j) ha)).and (nodeSum_runs (climb_len (((sidesV n.toNat n i).zip P).take j) ha) (blobAt hb hj))
    refine Evt.succ (((r1.and r2).and (hall.and (Evt.ge (P.length+1)))).mono fun m hn=>?_)
    obtain ⟨⟨e1,e2⟩,e3,e4⟩:=hn
    rw [f51_run,f51_eq,e1,step1,toInt_i,eqI_t rfl,not_t,cond_false,e2,step1,sides_at m g3 g4 g2,step1f,toSlice_s,toBlob_b]
    generalize leafH s=a at e3 ha
    generalize sidesV n.toNat n i=S at e3 g5 hk
    have key:∀ (j k c:Nat),c+j=P.length→j < k→f51_l0 (runE G ext m) m k (upsV (S.zip P) a c) S (S.length:Int) (c:Int) i n P (climb ((S.zip P).take c) a)=some ⟨[.slice (upsV (S.zip P) a P.length)],[],true⟩:=by
      intro j
      induction j with
      | zero =>
        intro k c hc hj
        obtain ⟨k,rfl⟩:∃ j,k=j+1:=⟨k-1,by omega⟩
        rw [f51_l0_eq,ltI_f (by omega),cond_false,show c=P.length by omega]
        rfl
      | succ j ih =>
        intro k c hc hj
        obtain ⟨k,rfl⟩:∃ j,k=j+1:=⟨k-1,by omega⟩
        have ih':=ih k (c+1) (by omega) (by omega)
        obtain ⟨n1,n2⟩:=e3 c (by omega)
        rw [show ((c+1:Nat):Int)=(c:Int)+1 by omega,upsV_succ,climb_take a g5.symm (by omega)] at ih'
        rw [f51_l0_eq,ltI_t (a:=(c:Int)) (by omega),cond_true,inR_nat (n:=S.length) (by omega),cond_true,Int.toNat_natCast,inR_nat (n:=P.length) (by omega),n1,n2,step1,step1,toBlob_b,toBlob_b,upsV_len,show Nat.ble ((c+1+1)*32) 140737488355328=true from Nat.ble_eq_true_of_le (by omega),w64 (x:=(c:Int)+1) (by omega) (by omega)]
        unfold stepH at ih'
        cases hb:(nth S c).toBool with
        | true=>rw [if_pos hb] at ih'; exact ih'
        | false=>rw [if_neg (by rw [hb]; simp)] at ih'; exact ih'
    exact key P.length m 0 (by omega) (by omega)
  · refine Evt.succ ((may_runs i n P).mono fun m hn=>?_)
    rw [if_neg hm,f51_run,f51_eq,hn,step1,toInt_i,eqI_f hm]; rfl
theorem holdRoot_runs {s:List UInt8} {i n:Int} {P:List AV} (hs:s.length≤140737488355328) (hb:Blob32 P):RunsX 24 [.str s,.agg [.int i,.int n,.slice P]] ⟨[.blob (toldH s i n P),.int (mayH i n P)],[],false⟩:=by
  have r1:=may_runs i n P
  have r2:=up_runs (s:=s) (i:=i) (n:=n) (P:=P) hs hb
  unfold toldH
  by_cases hm:mayH i n P=0
  · obtain ⟨g1,g2,g3,g4,g5⟩:=mayH_in hm
    have hk:=sidesV_len n.toNat n i
    rw [if_pos hm]
    rw [if_pos hm] at r2
    rw [hm] at r1 ⊢
    have r3:=rootSum_runs n.toNat (climb_len (waysH i n P) (a:=leafH s) (hashV_len _))
    refine Evt.succ (((r1.and r2).and r3).mono fun m hn=>?_)
    obtain ⟨⟨e1,e2⟩,e3⟩:=hn
    have e:nth (upsV (waysH i n P) (leafH s) P.length) P.length=.blob (climb (waysH i n P) (leafH s)):=by
      rw [upsV_nth _ _ (Nat.le_refl _),List.take_of_length_le (by unfold waysH; rw [List.length_zip]; omega)]
    have en:IntKind.wrap .u64 n=U (BitVec.ofNat 64 n.toNat):=by
      have:=wrapLen (n:=n.toNat) (by omega)
      rwa [show ((n.toNat:Nat):Int)=n by omega] at this
    rw [f24_run,f24_eq,e1,step1,toInt_i,eqI_t rfl,not_t,cond_false,e2,step1f,toSlice_s,upsV_len,w64 (x:=((P.length+1:Nat):Int)-1) (by omega) (by omega),show ((P.length+1:Nat):Int)-1=(P.length:Int) by omega,inR_nat (by omega),cond_true,Int.toNat_natCast,e,toBlob_b,en,e3,step1]
    rfl
  · refine Evt.succ (r1.mono fun m hn=>?_)
    rw [if_neg hm,f24_run,f24_eq,hn,step1,toInt_i,eqI_f hm]; rfl
theorem holdCheck_runs {root s:List UInt8} {i n:Int} {P:List AV} (hs:s.length≤140737488355328) (hb:Blob32 P):RunsX 8 [.blob root,.str s,.agg [.int i,.int n,.slice P]] ⟨[.bool (checkH root s i n P)],[],false⟩:=by
  refine Evt.succ ((holdRoot_runs (s:=s) (i:=i) (n:=n) (P:=P) hs hb).mono fun m hn=>?_)
  unfold checkH
  rw [f8_run,f8_eq,hn,step2,toInt_i,toBlob_b]
  cases eqI (mayH i n P) 0 <;> rfl
end Go.Proofs.YtlkkebfjmbfgpaaGreatDoor.Ev

namespace Go.Proofs.YtlkkebfjmbfgpaaGreatDoor.Ev
open Go Go.RowKit
def isV (a b:List UInt8):Bool:=bif !(eqS a b) then eqS (hashV a) (hashV b) else false
theorem is_runs {a b:List UInt8} (ha:a.length≤1152921504606840000) (hb:b.length≤1152921504606840000):RunsX 9 [.str a,.str b] ⟨[.bool (isV a b)],[],false⟩:=by
  have s1:RunsX 25 [.str a] ⟨[.blob (hashV a)],[],false⟩:=by
    refine Evt.succ ((sha_runs ha).mono fun m hm=>?_)
    rw [f25_run,f25_eq,hm,step1]; rfl
  have s2:RunsX 25 [.str b] ⟨[.blob (hashV b)],[],false⟩:=by
    refine Evt.succ ((sha_runs hb).mono fun m hm=>?_)
    rw [f25_run,f25_eq,hm,step1]; rfl
  refine Evt.succ ((s1.and s2).mono fun m hm=>?_)
  unfold isV
  rw [f9_run,f9_eq,hm.1,step1,hm.2,step1]
  cases eqS a b <;> rfl
end Go.Proofs.YtlkkebfjmbfgpaaGreatDoor.Ev

namespace Go.Proofs.YtlkkebfjmbfgpaaGreatDoor.Ev
open Go Go.RowKit
theorem bs8_inj' {n m:Nat} (hn:n < 16777216) (hm:m < 16777216) (h:bs (BitVec.ofNat 64 n) 8=bs (BitVec.ofNat 64 m) 8):n=m:=by
  simp only [bs,List.cons.injEq] at h
  obtain ⟨_,_,_,_,_,h5,h6,h7,_⟩:=h
  have e:∀ (k s:Nat),k < 16777216→((byteOf (BitVec.ofNat 64 k >>> s)).toNat:Int)=((k / 2^s % 256:Nat):Int):=by
    intro k s hk
    rw [byteOf_toNat]
    unfold U
    rw [BitVec.toNat_ushiftRight,BitVec.toNat_ofNat,Nat.shiftRight_eq_div_pow,Nat.mod_eq_of_lt (show k < 2^64 by omega)]
    omega
  have a5:=e n (8*2) hn
  have a6:=e n (8*1) hn
  have a7:=e n (8*0) hn
  rw [h5,e m _ hm] at a5
  rw [h6,e m _ hm] at a6
  rw [h7,e m _ hm] at a7
  simp only [Nat.reduceMul,Nat.reducePow] at a5 a6 a7
  omega
def nodeTx (z:AV × AV) (a:List UInt8):List UInt8:=if z.1.toBool then nodeT z.2.toBlob a else nodeT a z.2.toBlob
theorem stepH_tx (z:AV × AV) (a:List UInt8):stepH z a=hashV (nodeTx z a):=by unfold stepH nodeTx; split <;> rfl
def txtV (s:List UInt8) (S P:List AV) (N:Nat) (j:Nat):List UInt8 :=
  if j=0 then leafT s else if j≤S.length then nodeTx (nth S (j-1),nth P (j-1)) (climb ((S.zip P).take (j-1)) (leafH s)) else rootT N (climb (S.zip P) (leafH s))
def txtL (s:List UInt8) (S P:List AV) (N:Nat) (m:Nat):List AV:=(List.range m).map fun j=>.str (txtV s S P N j)
theorem txtL_len (s:List UInt8) (S P:List AV) (N m:Nat):(txtL s S P N m).length=m:=by simp [txtL]
theorem txtL_succ (s:List UInt8) (S P:List AV) (N m:Nat):txtL s S P N (m+1)=txtL s S P N m++[.str (txtV s S P N m)]:=by simp [txtL,List.range_succ]
theorem txtL_nth (s:List UInt8) (S P:List AV) (N:Nat) {j m:Nat} (h:j < m):(nth (txtL s S P N m) j).toStr=txtV s S P N j:=by
  rw [nth_lt (by rw [txtL_len]; exact h)]
  simp [txtL]
  rfl
theorem txt_hash {s:List UInt8} {S P:List AV} {N:Nat} (hP:P.length=S.length) {j:Nat} (hj:j≤S.length):hashV (txtV s S P N j)=climb ((S.zip P).take j) (leafH s):=by
  unfold txtV
  by_cases h:j=0
  · subst h; rfl
  · rw [if_neg h,if_pos hj]
    obtain ⟨i,rfl⟩:∃ i,j=i+1:=⟨j-1,by omega⟩
    rw [climb_take _ hP.symm (by omega),stepH_tx]; rfl
theorem txt_top {s:List UInt8} {S P:List AV} {N:Nat}:txtV s S P N (S.length+1)=rootT N (climb (S.zip P) (leafH s)):=by
  unfold txtV
  rw [if_neg (by omega),if_neg (by omega)]
theorem txt_len {s:List UInt8} {S P:List AV} {N:Nat} (hP:P.length=S.length) (hb:Blob32 P) (j:Nat):(txtV s S P N j).length≤s.length+100:=by
  have ha:(leafH s).length=32:=hashV_len _
  unfold txtV
  by_cases h:j=0
  · rw [if_pos h,leafT_len]; omega
  · rw [if_neg h]
    by_cases h1:j≤S.length
    · rw [if_pos h1]
      have k1:=blobAt hb (i:=j-1) (by omega)
      have k2:=climb_len ((S.zip P).take (j-1)) ha
      unfold nodeTx
      split
      · rw [nodeT_len k1 k2]; omega
      · rw [nodeT_len k2 k1]; omega
    · rw [if_neg h1,rootT_len _ (climb_len _ ha)]; omega
theorem nodeText_runs {a b:List UInt8} (ha:a.length=32) (hb:b.length=32):RunsX 54 [.blob a,.blob b] ⟨[.str (nodeT a b)],[],false⟩ :=
  Evt.succ (Evt.succ (.of fun n=>nodeText_at n ha hb))
theorem step1oo {α:Type} (v y1 y2:AV) (fr:Bool) (K:AV→AV→AV→Option α):(some (⟨[v],[y1,y2],fr⟩:Res)).bind (fun r=>consV r.outs fun y ys=>consV ys fun z zs=>nilV zs (consV r.vals fun v vs=>nilV vs (K y z v)))=K y1 y2 v:=rfl
theorem node_clash {S P L:List AV} {i n:Int} {a:List UInt8} {j:Nat} (hj:j < P.length) (hb:Blob32 P) (ha:a.length=32) (hL:j < L.length) (hn:nth L j=.blob a) :
    RunsX 53 [.int (j:Int),.bool (nth S j).toBool,.agg [.int i,.int n,.slice P],.slice L] ⟨[.str (nodeTx (nth S j,nth P j) a)],[.agg [.int i,.int n,.slice P],.slice L],false⟩:=by
  have r1:=nodeText_runs (blobAt hb hj) ha
  have r2:=nodeText_runs ha (blobAt hb hj)
  refine Evt.succ ((r1.and r2).mono fun m hm=>?_)
  rw [f53_run,f53_eq,inR_nat hj,inR_nat hL,Int.toNat_natCast,hn,toBlob_b,hm.1,step1,hm.2,step1]
  unfold nodeTx
  cases hs:(nth S j).toBool with
  | true=>rfl
  | false=>rfl
theorem texts_clash {s:List UInt8} {i n:Int} {P:List AV} (hs:s.length≤140737488355328) (hb:Blob32 P) (hm:mayH i n P=0) :
    RunsX 23 [.agg [.str s,.agg [.int i,.int n,.slice P]]] ⟨[.slice (txtL s (sidesV n.toNat n i) P n.toNat (P.length+2))],[],true⟩:=by
  obtain ⟨g1,g2,g3,g4,g5⟩:=mayH_in hm
  have r1:=up_runs (s:=s) (i:=i) (n:=n) (P:=P) hs hb
  rw [if_pos hm] at r1
  unfold waysH at r1
  have hk:=sidesV_len n.toNat n i
  have ha:(leafH s).length=32:=hashV_len _
  have en:IntKind.wrap .u64 n=U (BitVec.ofNat 64 n.toNat):=by
    have:=wrapLen (n:=n.toNat) (by omega)
    rwa [show ((n.toNat:Nat):Int)=n by omega] at this
  have hS:=fun m=>sides_at m g3 g4 g2
  generalize sidesV n.toNat n i=S at g5 hk r1 hS
  have hall:=Evt.all P.length fun j hj=>node_clash (S:=S) (i:=i) (n:=n) (L:=upsV (S.zip P) (leafH s) P.length) hj hb (climb_len ((S.zip P).take j) ha) (by rw [upsV_len]; omega) (upsV_nth _ _ (by omega))
  refine Evt.succ (((r1.and hall).and (Evt.ge (P.length+3000))).mono fun m hn=>?_)
  obtain ⟨⟨e1,e2⟩,e3⟩:=hn
  obtain ⟨m',rfl⟩:∃ j,m=j+3:=⟨m-3,by omega⟩
  have e4:=leafText_at (m'+1) hs
  have e5:=rootText_at m' (by omega) n.toNat (climb_len (S.zip P) ha)
  have key:∀ (j k c:Nat),c+j=P.length→j < k→f23_l0 (runE G ext (m'+3)) (m'+3) k (txtL s S P n.toNat (c+1)) S (S.length:Int) (c:Int) i n P (upsV (S.zip P) (leafH s) P.length)=some ⟨[.slice (txtL s S P n.toNat (P.length+2))],[],true⟩:=by
    intro j
    induction j with
    | zero =>
      intro k c hc hj
      obtain ⟨k,rfl⟩:∃ j,k=j+1:=⟨k-1,by omega⟩
      obtain rfl:c=P.length:=by omega
      have e:nth (upsV (S.zip P) (leafH s) P.length) P.length=.blob (climb (S.zip P) (leafH s)):=by
        rw [upsV_nth _ _ (Nat.le_refl _),List.take_of_length_le (by rw [List.length_zip]; omega)]
      rw [f23_l0_eq,ltI_f (by omega),cond_false,upsV_len,w64 (x:=((P.length+1:Nat):Int)-1) (by omega) (by omega),show ((P.length+1:Nat):Int)-1=(P.length:Int) by omega,inR_nat (by omega),cond_true,Int.toNat_natCast,e,toBlob_b,en,e5,step1,txtL_len,show Nat.ble ((P.length+1+1)*16) 140737488355328=true from Nat.ble_eq_true_of_le (by omega),cond_true,toStr_s,txtL_succ _ _ _ _ (P.length+1),show P.length+1=S.length+1 by omega,txt_top]
      rfl
    | succ j ih =>
      intro k c hc hj
      obtain ⟨k,rfl⟩:∃ j,k=j+1:=⟨k-1,by omega⟩
      have ih':=ih k (c+1) (by omega) (by omega)
      have et:txtV s S P n.toNat (c+1)=nodeTx (nth S c,nth P c) (climb ((S.zip P).take c) (leafH s)):=by
        unfold txtV
        rw [if_neg (by omega),if_pos (by omega)]; rfl
      rw [show ((c+1:Nat):Int)=(c:Int)+1 by omega,txtL_succ _ _ _ _ (c+1),et] at ih'
      rw [f23_l0_eq,ltI_t (a:=(c:Int)) (by omega),cond_true,inR_nat (n:=S.length) (by omega),cond_true,Int.toNat_natCast,e2 c (by omega),step1oo,txtL_len,show Nat.ble ((c+1+1)*16) 140737488355328=true from Nat.ble_eq_true_of_le (by omega),cond_true,w64 (x:=(c:Int)+1) (by omega) (by omega)]
      exact ih'
  rw [f23_run,f23_eq,e1,step1f,e4,step1,hS,step1f,toSlice_s,toSlice_s,toStr_s]
  exact key P.length (m'+3) 0 (by omega) (by omega)
theorem isV_of {a b:List UInt8} (h:a≠b) (k:hashV a=hashV b):isV a b=true:=by
  unfold isV
  rw [eqS_f h,not_f,cond_true,eqS_t k]
theorem leafT_inj {a b:List UInt8} (h:leafT a=leafT b):a=b:=by
  unfold leafT at h
  exact List.append_cancel_left h
theorem node_inj {S:AV} {p q:AV} {a b:List UInt8} (hp:p.toBlob.length=32) (hq:q.toBlob.length=32) (ha:a.length=32) (hb:b.length=32) (h:nodeTx (S,p) a=nodeTx (S,q) b):a=b:=by
  unfold nodeTx nodeT at h
  split at h
  · exact (List.append_inj h (by simp [hp,hq])).2
  · have:=(List.append_inj h (by simp [ha,hb])).1
    exact List.append_cancel_left this
theorem find_l0 {s s':List UInt8} {S P P':List AV} {N:Nat} (hss:s≠s') (hP:P.length=S.length) (hP':P'.length=S.length) (hb:Blob32 P) (hb':Blob32 P') (hS:S.length≤1048576) :
    ∀ (j:Nat),j≤S.length→climb ((S.zip P).take j) (leafH s)=climb ((S.zip P').take j) (leafH s') →
      ∃ t u:List UInt8,(∀ (run:Run) (m k:Nat),j+1 < k→f7_l0 run m k (txtL s S P N (P.length+2)) (txtL s' S P' N (P'.length+2)) ((S.length+2-j:Nat):Int)=some ⟨[.str t,.str u,.bool true],[],false⟩)∧isV t u=true∧t.length≤s.length+100∧u.length≤s'.length+100:=by
  intro j
  induction j with
  | zero =>
    intro hj he
    have hne:txtV s S P N 0≠txtV s' S P' N 0:=fun h=>hss (leafT_inj h)
    refine ⟨_,_,fun run m k hk=>?_,isV_of hne (by rw [txt_hash hP (Nat.zero_le _),txt_hash hP' (Nat.zero_le _)]; exact he),txt_len hP hb 0,txt_len hP' hb' 0⟩
    obtain ⟨k,rfl⟩:∃ j,k=j+1:=⟨k-1,by omega⟩
    rw [f7_l0_eq,txtL_len,txtL_len,leI_t (by omega),cond_true,leI_t (by omega),cond_true,hP,hP',w64 (x:=((S.length+2:Nat):Int)-((S.length+2-0:Nat):Int)) (by omega) (by omega),show ((S.length+2:Nat):Int)-((S.length+2-0:Nat):Int)=((0:Nat):Int) by omega,inR_nat (by omega),cond_true,cond_true,Int.toNat_natCast,txtL_nth _ _ _ _ (by omega),txtL_nth _ _ _ _ (by omega),eqS_f hne]
    rfl
  | succ j ih =>
    intro hj he
    have head:∀ (run:Run) (m k:Nat) X,(bif !(eqS (txtV s S P N (j+1)) (txtV s' S P' N (j+1))) then some ⟨[.str (txtV s S P N (j+1)),.str (txtV s' S P' N (j+1)),.bool true],[],f7_fresh⟩ else f7_l0 run m k (txtL s S P N (P.length+2)) (txtL s' S P' N (P'.length+2)) ((S.length+2-j:Nat):Int))=X→f7_l0 run m (k+1) (txtL s S P N (P.length+2)) (txtL s' S P' N (P'.length+2)) ((S.length+2-(j+1):Nat):Int)=X:=by
      intro run m k X hX
      rw [f7_l0_eq,txtL_len,txtL_len,leI_t (by omega),cond_true,leI_t (by omega),cond_true,hP,hP',w64 (x:=((S.length+2:Nat):Int)-((S.length+2-(j+1):Nat):Int)) (by omega) (by omega),show ((S.length+2:Nat):Int)-((S.length+2-(j+1):Nat):Int)=((j+1:Nat):Int) by omega,inR_nat (by omega),cond_true,cond_true,Int.toNat_natCast,txtL_nth _ _ _ _ (by omega),txtL_nth _ _ _ _ (by omega),w64 (x:=((S.length+2-(j+1):Nat):Int)+1) (by omega) (by omega),show ((S.length+2-(j+1):Nat):Int)+1=((S.length+2-j:Nat):Int) by omega]
      rw [hP,hP'] at hX
      exact hX
    by_cases hne:txtV s S P N (j+1)=txtV s' S P' N (j+1)
    · have h2:climb ((S.zip P).take j) (leafH s)=climb ((S.zip P').take j) (leafH s'):=by
        unfold txtV at hne
        rw [if_neg (show ¬ j+1=0 by omega),if_pos hj,if_neg (show ¬ j+1=0 by omega),if_pos hj] at hne
        exact node_inj (blobAt hb (by omega)) (blobAt hb' (by omega)) (climb_len _ (hashV_len _)) (climb_len _ (hashV_len _)) hne
      obtain ⟨t,u,h3,h4⟩:=ih (by omega) h2
      refine ⟨t,u,fun run m k hk=>?_,h4⟩
      obtain ⟨k,rfl⟩:∃ j,k=j+1:=⟨k-1,by omega⟩
      refine head run m k _ ?_
      rw [eqS_t hne,not_t,cond_false]
      exact h3 run m k (by omega)
    · refine ⟨_,_,fun run m k hk=>?_,isV_of hne (by rw [txt_hash hP hj,txt_hash hP' hj]; exact he),txt_len hP hb _,txt_len hP' hb' _⟩
      obtain ⟨k,rfl⟩:∃ j,k=j+1:=⟨k-1,by omega⟩
      refine head run m k _ ?_
      rw [eqS_f hne]; rfl
theorem find_top (run:Run) (m k:Nat) {s s':List UInt8} {S S' P P':List AV} {N N':Nat} (hP:P.length=S.length) (hP':P'.length=S'.length) (hS:S.length≤1048576) (hS':S'.length≤1048576) :
    f7_l0 run m (k+1) (txtL s S P N (P.length+2)) (txtL s' S' P' N' (P'.length+2)) 1 =
      bif !(eqS (rootT N (climb (S.zip P) (leafH s))) (rootT N' (climb (S'.zip P') (leafH s')))) then some ⟨[.str (rootT N (climb (S.zip P) (leafH s))),.str (rootT N' (climb (S'.zip P') (leafH s'))),.bool true],[],f7_fresh⟩ else f7_l0 run m k (txtL s S P N (P.length+2)) (txtL s' S' P' N' (P'.length+2)) 2:=by
  rw [f7_l0_eq,txtL_len,txtL_len,leI_t (by omega),cond_true,leI_t (by omega),cond_true,hP,hP',w64 (x:=((S.length+2:Nat):Int)-1) (by omega) (by omega),show ((S.length+2:Nat):Int)-1=((S.length+1:Nat):Int) by omega,w64 (x:=((S'.length+2:Nat):Int)-1) (by omega) (by omega),show ((S'.length+2:Nat):Int)-1=((S'.length+1:Nat):Int) by omega,inR_nat (by omega),cond_true,inR_nat (by omega),cond_true,Int.toNat_natCast,Int.toNat_natCast,txtL_nth _ _ _ _ (by omega),txtL_nth _ _ _ _ (by omega),txt_top,txt_top,w64 (x:=(1:Int)+1) (by omega) (by omega)]
  rfl
theorem checkH_in {root s:List UInt8} {i n:Int} {P:List AV} (h:checkH root s i n P=true):mayH i n P=0∧rootH n.toNat (climb (waysH i n P) (leafH s))=root:=by
  unfold checkH at h
  by_cases hm:mayH i n P=0
  · rw [eqI_t hm,cond_true,eqS_iff] at h
    unfold toldH at h
    rw [if_pos hm] at h
    exact ⟨hm,h⟩
  · rw [eqI_f hm] at h; cases h
theorem find_both {root s s':List UInt8} {i n n':Int} {P P':List AV} (hs:s.length≤140737488355328) (hs':s'.length≤140737488355328) (hb:Blob32 P) (hb':Blob32 P') (hss:s≠s')
    (h:checkH root s i n P=true) (h':checkH root s' i n' P'=true) :
    ∃ t u:List UInt8,RunsX 7 [.blob root,.agg [.str s,.agg [.int i,.int n,.slice P]],.agg [.str s',.agg [.int i,.int n',.slice P']]] ⟨[.str t,.str u,.bool true],[],false⟩∧isV t u=true∧t.length≤s.length+100∧u.length≤s'.length+100:=by
  obtain ⟨m1,hr1⟩:=checkH_in h
  obtain ⟨m2,hr2⟩:=checkH_in h'
  obtain ⟨g1,g2,g3,g4,g5⟩:=mayH_in m1
  obtain ⟨k1,k2,k3,k4,k5⟩:=mayH_in m2
  have r1:=holdCheck_runs (root:=root) (s:=s) (i:=i) (n:=n) (P:=P) hs hb
  have r2:=holdCheck_runs (root:=root) (s:=s') (i:=i) (n:=n') (P:=P') hs' hb'
  rw [h] at r1
  rw [h'] at r2
  have r3:=texts_clash (s:=s) hs hb m1
  have r4:=texts_clash (s:=s') hs' hb' m2
  have hk:=sidesV_len n.toNat n i
  have hk':=sidesV_len n'.toNat n' i
  have go:∀ t u:List UInt8,(∀ m,2000000≤m→f7_l0 (runE G ext m) m m (txtL s (sidesV n.toNat n i) P n.toNat (P.length+2)) (txtL s' (sidesV n'.toNat n' i) P' n'.toNat (P'.length+2)) 1=some ⟨[.str t,.str u,.bool true],[],false⟩) →
      RunsX 7 [.blob root,.agg [.str s,.agg [.int i,.int n,.slice P]],.agg [.str s',.agg [.int i,.int n',.slice P']]] ⟨[.str t,.str u,.bool true],[],false⟩:=by
    intro t u ht
    refine Evt.succ ((((r1.and r2).and (r3.and r4)).and (Evt.ge 2000000)).mono fun m hn=>?_)
    obtain ⟨⟨⟨e1,e2⟩,e3,e4⟩,e5⟩:=hn
    rw [f7_run,f7_eq,e1,step1,toBool_b,not_t,cond_false,e2,step1,toBool_b,not_t,cond_false,eqI_t rfl,not_t,cond_false,eqS_f hss,cond_false,e3,step1f,e4,step1f,toSlice_s,toSlice_s]
    exact ht m e5
  by_cases hne:rootT n.toNat (climb (waysH i n P) (leafH s))=rootT n'.toNat (climb (waysH i n' P') (leafH s'))
  · have hc1:=climb_len (waysH i n P) (a:=leafH s) (hashV_len _)
    have hc2:=climb_len (waysH i n' P') (a:=leafH s') (hashV_len _)
    unfold rootT at hne
    have q1:=List.append_inj hne (by simp [bs_len])
    have q2:=List.append_cancel_left q1.1
    have q3:=bs8_inj' (by omega) (by omega) q2
    have q4:n=n':=by omega
    subst q4
    have q5:=q1.2
    unfold waysH at q5
    generalize hSe:sidesV n.toNat n i=S at g5 k5 hk hk' q5 go
    have z1:(S.zip P).take S.length=S.zip P:=List.take_of_length_le (by rw [List.length_zip]; omega)
    have z2:(S.zip P').take S.length=S.zip P':=List.take_of_length_le (by rw [List.length_zip]; omega)
    obtain ⟨t,u,h3,h4⟩:=find_l0 (s:=s) (s':=s') (S:=S) (P:=P) (P':=P') (N:=n.toNat) hss g5 k5 hb hb' (by omega) S.length (Nat.le_refl _) (by rw [z1,z2]; exact q5)
    refine ⟨t,u,go t u (fun m hm=>?_),h4⟩
    obtain ⟨m,rfl⟩:∃ j,m=j+1:=⟨m-1,by omega⟩
    rw [find_top _ _ _ g5 k5 (by omega) (by omega),q5,eqS_t rfl,not_t,cond_false]
    have:=h3 (runE G ext (m+1)) (m+1) m (by omega)
    rw [show ((S.length+2-S.length:Nat):Int)=2 by omega] at this
    exact this
  · have hh:hashV (rootT n.toNat (climb (waysH i n P) (leafH s)))=hashV (rootT n'.toNat (climb (waysH i n' P') (leafH s'))):=hr1.trans hr2.symm
    refine ⟨_,_,go _ _ (fun m hm=>?_),isV_of hne hh,by rw [rootT_len _ (climb_len _ (leafH_len _))]; omega,by rw [rootT_len _ (climb_len _ (leafH_len _))]; omega⟩
    obtain ⟨m,rfl⟩:∃ j,m=j+1:=⟨m-1,by omega⟩
    unfold waysH at hne ⊢
    rw [find_top _ _ _ g5 k5 (by omega) (by omega),eqS_f hne]; rfl
end Go.Proofs.YtlkkebfjmbfgpaaGreatDoor.Ev

namespace Go.Proofs.YtlkkebfjmbfgpaaGreatDoor.Ev
open Go Go.RowKit
theorem topV_more:∀ (k:Nat) (l:List AV),l.length≤k→topV (k+1) l=topV k l
  | 0,l,h=>by
    have:l.length=0:=by omega
    simp only [topV,if_pos this]
  | k+1,l,h=>by
    rw [topV]
    conv=>rhs; rw [topV]
    by_cases h0:l.length=0
    · rw [if_pos h0,if_pos h0]
    · by_cases h1:l.length=1
      · rw [if_neg h0,if_neg h0,if_pos h1,if_pos h1]
      · obtain ⟨p1,p2⟩:=leftV_range (n:=(l.length:Int)) (by omega)
        rw [if_neg h0,if_neg h0,if_neg h1,if_neg h1,topV_more k (l.take (leftV (l.length:Int)).toNat) (by rw [List.length_take]; omega),topV_more k (l.drop (leftV (l.length:Int)).toNat) (by rw [List.length_drop]; omega)]
theorem topV_at (k:Nat) (l:List AV) (h:l.length≤k):topV k l=topV l.length l:=by
  obtain ⟨d,rfl⟩:∃ d,k=l.length+d:=⟨k-l.length,by omega⟩
  clear h
  induction d with
  | zero=>rfl
  | succ d ih=>rw [show l.length+(d+1)=(l.length+d)+1 by omega,topV_more _ _ (by omega),ih]
theorem open_climbs:∀ (k:Nat) (l:List AV) (i:Int),l.length≤k→0≤i→i < l.length→climb ((sidesV k (l.length:Int) i).zip (pathV k l i)) (nth l i.toNat).toBlob=topV k l
  | 0,l,i,hk,h0,h1=>by omega
  | k+1,l,i,hk,h0,h1=>by
    simp only [sidesV,pathV,topV]
    by_cases h2:l.length < 2
    · have hl:l.length=1:=by omega
      have hi:i=0:=by omega
      subst hi
      rw [if_pos (show (l.length:Int) < 2 by omega),if_pos h2,if_neg (show ¬ l.length=0 by omega),if_pos hl]; rfl
    · obtain ⟨p1,p2⟩:=leftV_range (n:=(l.length:Int)) (by omega)
      have pe:(leftV (l.length:Int))=(((leftV (l.length:Int)).toNat:Nat):Int):=by omega
      rw [if_neg (show ¬ (l.length:Int) < 2 by omega),if_neg h2,if_neg (show ¬ l.length=0 by omega),if_neg (show ¬ l.length=1 by omega)]
      generalize (leftV (l.length:Int)).toNat=p at pe
      rw [pe] at p1 p2 ⊢
      have la:(l.take p).length=p:=by simp; omega
      have lb:(l.drop p).length=l.length-p:=by simp
      have lb2:(((l.drop p).length:Nat):Int)=(l.length:Int)-(p:Int):=by rw [lb]; omega
      by_cases hi:i < (p:Int)
      · rw [if_pos hi,if_pos hi]
        have ih:=open_climbs k (l.take p) i (by omega) h0 (by omega)
        have ps:=path_sides k (l.take p) i (by omega)
        rw [la] at ih ps
        rw [List.zip_append ps.symm]
        rw [show ([AV.bool false].zip [AV.blob (topV (l.length-p) (l.drop p))])=[(AV.bool false,AV.blob (topV (l.length-p) (l.drop p)))] from rfl,climb_snoc]
        have en:nth (l.take p) i.toNat=nth l i.toNat:=by
          rw [nth_lt (by omega),nth_lt (by omega),List.getElem_take]
        rw [en] at ih
        rw [ih]
        show nodeH _ (topV (l.length-p) (l.drop p))=_
        rw [topV_at k (l.drop p) (by omega),lb]
      · rw [if_neg hi,if_neg hi]
        have ih:=open_climbs k (l.drop p) (i-p) (by omega) (by omega) (by omega)
        have ps:=path_sides k (l.drop p) (i-p) (by omega)
        rw [lb2] at ih ps
        rw [List.zip_append ps.symm]
        rw [show ([AV.bool true].zip [AV.blob (topV p (l.take p))])=[(AV.bool true,AV.blob (topV p (l.take p)))] from rfl,climb_snoc]
        have en:nth (l.drop p) (i-p).toNat=nth l i.toNat:=by
          rw [nth_lt (by omega),nth_lt (by omega),List.getElem_drop]
          congr 1
          omega
        rw [en] at ih
        rw [ih]
        show nodeH (topV p (l.take p)) _=_
        rw [topV_at k (l.take p) (by omega),la]
theorem pathV_blob:∀ (k:Nat) (l:List AV) (i:Int),Blob32 l→Blob32 (pathV k l i)
  | 0,_,_,_=>fun y hy=>by cases hy
  | k+1,l,i,h=>by
    simp only [pathV]
    have ha:∀ p,Blob32 (l.take p):=fun p y hy=>h y (List.mem_of_mem_take hy)
    have hb:∀ p,Blob32 (l.drop p):=fun p y hy=>h y (List.mem_of_mem_drop hy)
    split
    · intro y hy; cases hy
    · split
      · intro y hy
        rcases List.mem_append.1 hy with h1 | h1
        · exact pathV_blob k _ i (ha _) y h1
        · rw [List.mem_singleton] at h1
          exact ⟨_,h1,topV_len _ _ (hb _)⟩
      · intro y hy
        rcases List.mem_append.1 hy with h1 | h1
        · exact pathV_blob k _ _ (hb _) y h1
        · rw [List.mem_singleton] at h1
          exact ⟨_,h1,topV_len _ _ (ha _)⟩
def pathL (l:List AV) (i:Int):List AV:=pathV l.length (leavesV l) i
theorem pathL_blob (l:List AV) (i:Int):Blob32 (pathL l i):=pathV_blob _ _ _ (leavesV_blob l)
theorem pathL_len (l:List AV) (i:Int):(pathL l i).length=(sidesV l.length (l.length:Int) i).length:=by
  have:=path_sides l.length (leavesV l) i (by rw [leavesV_len]; omega)
  rwa [leavesV_len] at this
theorem opened_may {l:List AV} {i:Int} (hl:l.length≤1048576) (h0:0≤i) (h1:i < l.length):mayH i (l.length:Int) (pathL l i)=0:=by
  unfold mayH
  rw [if_neg (by omega),if_pos]
  rw [pathL_len,Int.toNat_natCast]
theorem opened_climbs {l:List AV} {i:Int} (h0:0≤i) (h1:i < l.length):climb (waysH i (l.length:Int) (pathL l i)) (leafH (nth l i.toNat).toStr)=topV l.length (leavesV l):=by
  have e:(nth (leavesV l) i.toNat).toBlob=leafH (nth l i.toNat).toStr:=by
    rw [nth_lt (l:=leavesV l) (by rw [leavesV_len]; omega),nth_lt (l:=l) (by omega)]
    simp only [leavesV,List.getElem_map]
    rfl
  have:=open_climbs l.length (leavesV l) i (by rw [leavesV_len]; omega) h0 (by rw [leavesV_len]; omega)
  rw [leavesV_len,e] at this
  unfold waysH pathL
  rw [Int.toNat_natCast]
  exact this
theorem opened_told {l:List AV} {i:Int} (hl:l.length≤1048576) (h0:0≤i) (h1:i < l.length):toldH (nth l i.toNat).toStr i (l.length:Int) (pathL l i)=rootV l:=by
  unfold toldH
  rw [if_pos (opened_may hl h0 h1),opened_climbs h0 h1,Int.toNat_natCast]; rfl
theorem opened_check {l:List AV} {i:Int} (hl:l.length≤1048576) (h0:0≤i) (h1:i < l.length):checkH (rootV l) (nth l i.toNat).toStr i (l.length:Int) (pathL l i)=true:=by
  unfold checkH
  rw [eqI_t (opened_may hl h0 h1),opened_told hl h0 h1,eqS_t rfl]; rfl
theorem openV_in {l:List AV} {i:Int} (h0:0≤i) (h1:i < l.length):openV l i=[.agg [.int i,.int (l.length:Int),.slice (pathL l i)],.int 0]:=by
  unfold openV
  rw [if_neg (by omega)]; rfl
theorem openV_out {l:List AV} {i:Int} (h:¬ (0≤i∧i < l.length)):openV l i=[.agg [.int 0,.int 0,.slice []],.int 3]:=by
  unfold openV
  rw [if_pos (by omega)]
end Go.Proofs.YtlkkebfjmbfgpaaGreatDoor.Ev

namespace Go.Proofs.YtlkkebfjmbfgpaaGreatDoor.Ev
open Go Go.RowKit
def bothV (root s:List UInt8) (i n:Int) (P:List AV) (s':List UInt8) (i' n':Int) (P':List AV):Bool:=checkH root s i n P&&(checkH root s' i' n' P'&&(eqI i i'&&!(eqS s s')))
theorem findNone_runs {root s s':List UInt8} {i n i' n':Int} {P P':List AV} (hs:s.length≤140737488355328) (hs':s'.length≤140737488355328) (hb:Blob32 P) (hb':Blob32 P') (h:bothV root s i n P s' i' n' P'=false) :
    RunsX 7 [.blob root,.agg [.str s,.agg [.int i,.int n,.slice P]],.agg [.str s',.agg [.int i',.int n',.slice P']]] ⟨[.str [],.str [],.bool false],[],false⟩:=by
  have r1:=holdCheck_runs (root:=root) (s:=s) (i:=i) (n:=n) (P:=P) hs hb
  have r2:=holdCheck_runs (root:=root) (s:=s') (i:=i') (n:=n') (P:=P') hs' hb'
  unfold bothV at h
  refine Evt.succ ((r1.and r2).mono fun m hm=>?_)
  rw [f7_run,f7_eq,hm.1,step1,toBool_b,hm.2,step1,toBool_b]
  cases h1:checkH root s i n P with
  | false=>rfl
  | true=>cases h2:checkH root s' i' n' P' with
    | false=>rfl
    | true=>cases h3:eqI i i' with
      | false=>rfl
      | true=>cases h4:eqS s s' with
        | true=>rfl
        | false=>rw [h1,h2,h3,h4] at h; cases h
theorem bothV_in {root s s':List UInt8} {i n i' n':Int} {P P':List AV} (h:bothV root s i n P s' i' n' P'=true):checkH root s i n P=true∧checkH root s' i' n' P'=true∧i=i'∧s≠s':=by
  unfold bothV at h
  simp only [Bool.and_eq_true] at h
  obtain ⟨h1,h2,h3,h4⟩:=h
  refine ⟨h1,h2,eqI_true h3,eqS_false ?_⟩
  cases h5:eqS s s' with
  | true=>rw [h5] at h4; cases h4
  | false=>rfl
theorem find_runs {root s s':List UInt8} {i n i' n':Int} {P P':List AV} (hs:s.length≤140737488355328) (hs':s'.length≤140737488355328) (hb:Blob32 P) (hb':Blob32 P') :
    ∃ t u:List UInt8,RunsX 7 [.blob root,.agg [.str s,.agg [.int i,.int n,.slice P]],.agg [.str s',.agg [.int i',.int n',.slice P']]] ⟨[.str t,.str u,.bool (bothV root s i n P s' i' n' P')],[],false⟩ ∧
      (bothV root s i n P s' i' n' P'=false→t=[]∧u=[])∧(bothV root s i n P s' i' n' P'=true→isV t u=true)∧t.length≤s.length+100∧u.length≤s'.length+100:=by
  cases h:bothV root s i n P s' i' n' P' with
  | false=>exact ⟨[],[],findNone_runs hs hs' hb hb' h,fun _=>⟨rfl,rfl⟩,(fun h=>by cases h),Nat.zero_le _,Nat.zero_le _⟩
  | true =>
    obtain ⟨h1,h2,rfl,h4⟩:=bothV_in h
    obtain ⟨t,u,k1,k2,k3,k4⟩:=find_both hs hs' hb hb' h4 h1 h2
    exact ⟨t,u,k1,(fun h=>by cases h),fun _=>k2,k3,k4⟩
end Go.Proofs.YtlkkebfjmbfgpaaGreatDoor.Ev

namespace Go.Proofs.YtlkkebfjmbfgpaaGreatDoor.Ev
open Go Go.RowKit
section
variable {m k0:Nat} {t u:List UInt8} {b:Bool}
theorem topC_j3 (ha:runE G ext (m+1) 4 []=some ⟨[.bool true],[],false⟩) (hi:b=true→runE G ext (m+1) 9 [.str t,.str u]=some ⟨[.bool true],[],false⟩) :
    f3_j3 (runE G ext (m+1)) (m+1) k0 t u b b=some ⟨[.bool true],[],false⟩:=by
  rw [f3_j3_at,f3_j3b_eq,eqO_same,cond_true]
  cases b with
  | false=>rw [not_f,cond_true,ha]; rfl
  | true=>rw [not_t,cond_false,hi rfl,step1,toBool_b,cond_true,ha]; rfl
variable {root s s':List UInt8} {i n i' n':Int} {P P':List AV}
theorem topC_j2 (ha:runE G ext (m+1) 4 []=some ⟨[.bool true],[],false⟩)
    (hf:runE G ext (m+1) 7 [.blob root,.agg [.str s,.agg [.int i,.int n,.slice P]],.agg [.str s',.agg [.int i',.int n',.slice P']]]=some ⟨[.str t,.str u,.bool (bothV root s i n P s' i' n' P')],[],false⟩)
    (hi:bothV root s i n P s' i' n' P'=true→runE G ext (m+1) 9 [.str t,.str u]=some ⟨[.bool true],[],false⟩)
    (h1:runE G ext (m+1) 8 [.blob root,.str s,.agg [.int i,.int n,.slice P]]=some ⟨[.bool (checkH root s i n P)],[],false⟩)
    (h2:runE G ext (m+1) 8 [.blob root,.str s',.agg [.int i',.int n',.slice P']]=some ⟨[.bool (checkH root s' i' n' P')],[],false⟩) :
    f3_j2 (runE G ext (m+1)) (m+1) k0 s i n P s' i' n' P' root=some ⟨[.bool true],[],false⟩:=by
  rw [f3_j2_at,f3_j2b_eq,hf,step3,h1,step1]
  simp only [toBool_b,toStr_s]
  have hj:=topC_j3 (k0:=k0) ha hi
  unfold bothV at hj ⊢
  cases c1:checkH root s i n P with
  | false=>rw [c1] at hj; rw [cond_false]; exact hj
  | true =>
    rw [c1] at hj
    rw [cond_true,h2,step1,toBool_b]
    cases c2:checkH root s' i' n' P' with
    | false=>rw [c2] at hj; rw [cond_false]; exact hj
    | true =>
      rw [c2] at hj
      rw [cond_true]
      cases c3:eqI i i' with
      | false=>rw [c3] at hj; rw [cond_false]; exact hj
      | true=>rw [c3] at hj; rw [cond_true]; exact hj
end
theorem topC_j1 {m k0:Nat} {l:List AV} {x:Int} {s s':List UInt8} {i n i' n':Int} {P P':List AV} {t2 u2:List UInt8} {e oi on:Int} {oP:List AV}
    (hin:e=0→0≤x∧x < l.length∧oi=x∧checkH (rootV l) (nth l x.toNat).toStr oi on oP=true)
    (hg:e=0→runE G ext (m+1) 7 [.blob (rootV l),.agg [.str (nth l x.toNat).toStr,.agg [.int oi,.int on,.slice oP]],.agg [.str s,.agg [.int i,.int n,.slice P]]]=some ⟨[.str t2,.str u2,.bool (bothV (rootV l) (nth l x.toNat).toStr oi on oP s i n P)],[],false⟩)
    (hgi:e=0→bothV (rootV l) (nth l x.toNat).toStr oi on oP s i n P=true→runE G ext (m+1) 9 [.str t2,.str u2]=some ⟨[.bool true],[],false⟩)
    (h1:runE G ext (m+1) 8 [.blob (rootV l),.str s,.agg [.int i,.int n,.slice P]]=some ⟨[.bool (checkH (rootV l) s i n P)],[],false⟩)
    (hj:f3_j2 (runE G ext (m+1)) (m+1) k0 s i n P s' i' n' P' (rootV l)=some ⟨[.bool true],[],false⟩) :
    f3_j1 (runE G ext (m+1)) (m+1) k0 l x e s i n P s' i' n' P' (rootV l) oi on oP=some ⟨[.bool true],[],false⟩:=by
  rw [f3_j1_at,f3_j1b_eq]
  by_cases he:e=0
  · obtain ⟨x0,x1,rfl,hc⟩:=hin he
    rw [eqI_t he,cond_true,inR_int x0 x1,cond_true,hg he,step3,h1,step1,toBool_b,toBool_b]
    simp only [toStr_s]
    have hgi:=hgi he
    unfold bothV at hgi ⊢
    rw [hc,Bool.true_and] at hgi ⊢
    cases c1:checkH (rootV l) s i n P with
    | false =>
      rw [cond_false,Bool.false_and,eqO_same,not_t,cond_false,cond_false]
      exact hj
    | true =>
      rw [c1,Bool.true_and] at hgi
      rw [cond_true,Bool.true_and]
      by_cases hi:i=oi
      · subst hi
        rw [eqI_t rfl,cond_true,cond_true,Bool.true_and]
        rw [eqI_t rfl,Bool.true_and] at hgi
        have es:eqS s (nth l i.toNat).toStr=eqS (nth l i.toNat).toStr s:=by
          unfold eqS
          by_cases h:s=(nth l i.toNat).toStr
          · rw [h]
          · rw [decide_eq_false h,decide_eq_false (fun h'=>h h'.symm)]
        rw [es,eqO_same,not_t,cond_false]
        cases c2:eqS (nth l i.toNat).toStr s with
        | true=>rw [not_t,cond_false]; exact hj
        | false =>
          rw [c2] at hgi
          rw [not_f,cond_true,hgi rfl,step1,toBool_b,not_t,cond_false]
          exact hj
      · rw [eqI_f hi,eqI_f (fun h=>hi h.symm),cond_false,Bool.false_and,eqO_same,not_t,cond_false,cond_false]
        exact hj
  · rw [eqI_f he,cond_false]
    exact hj
theorem openV_shape (l:List AV) (i:Int):∃ (a b:Int) (p:List AV) (e:Int),openV l i=[.agg [.int a,.int b,.slice p],.int e]:=by
  by_cases h:0≤i∧i < l.length
  · exact ⟨_,_,_,_,openV_in h.1 h.2⟩
  · exact ⟨_,_,_,_,openV_out h⟩
theorem bothV_self (root s:List UInt8) (i n:Int) (P:List AV) (s':List UInt8) (i' n':Int) (P':List AV) (h:i=i'→s=s'):bothV root s i n P s' i' n' P'=false:=by
  unfold bothV
  by_cases hi:i=i'
  · rw [eqS_t (h hi),not_t,Bool.and_false,Bool.and_false,Bool.and_false]
  · rw [eqI_f hi,Bool.false_and,Bool.and_false,Bool.and_false]
theorem topC_l0 {m n:Nat} {l:List AV} {x y:Int} {s s':List UInt8} {i ni i' ni':Int} {P P':List AV} (hl:l.length≤maxLen) (ha:runE G ext (m+1) 4 []=some ⟨[.bool true],[],false⟩)
    (hj:∀ k0,l.length≤100→s.length≤2000→s'.length≤2000→f3_j0 (runE G ext (m+1)) n k0 l x y s i ni P s' i' ni' P'=some ⟨[.bool true],[],false⟩) :
    ∀ (j k q:Nat) (z:Int),101-q=j→q≤l.length→j < k→f3_l0 (runE G ext (m+1)) n k l x y z (q:Int) s i ni P s' i' ni' P'=some ⟨[.bool true],[],false⟩:=by
  rw [maxLen_eq] at hl
  have fin:∀ (k0:Nat) (z:Int),(bif ltI 100 (l.length:Int) then (runE G ext (m+1) 4 []).bind fun r1=>nilV r1.outs (consV r1.vals fun v1 vs1=>nilV vs1 (some (⟨[.bool v1.toBool],[],false⟩:Res))) else
      bif ltI 5000 z then (runE G ext (m+1) 4 []).bind fun r2=>nilV r2.outs (consV r2.vals fun v2 vs2=>nilV vs2 (some ⟨[.bool v2.toBool],[],false⟩)) else
      bif ltI 2000 (s.length:Int) then (runE G ext (m+1) 4 []).bind fun r3=>nilV r3.outs (consV r3.vals fun v3 vs3=>nilV vs3 (some ⟨[.bool v3.toBool],[],false⟩)) else
      bif ltI 2000 (s'.length:Int) then (runE G ext (m+1) 4 []).bind fun r4=>nilV r4.outs (consV r4.vals fun v4 vs4=>nilV vs4 (some ⟨[.bool v4.toBool],[],false⟩)) else
      f3_j0 (runE G ext (m+1)) n k0 l x y s i ni P s' i' ni' P')=some ⟨[.bool true],[],false⟩:=by
    intro k0 z
    rw [ha]
    by_cases h1:100 < l.length
    · rw [ltI_t (by omega)]; rfl
    rw [ltI_f (by omega),cond_false]
    cases ltI 5000 z with
    | true=>rfl
    | false =>
      rw [cond_false]
      by_cases h2:2000 < s.length
      · rw [ltI_t (by omega)]; rfl
      rw [ltI_f (by omega),cond_false]
      by_cases h3:2000 < s'.length
      · rw [ltI_t (by omega)]; rfl
      rw [ltI_f (by omega),cond_false]
      exact hj k0 (by omega) (by omega) (by omega)
  intro j
  induction j with
  | zero =>
    intro k q z hq _ hk
    obtain ⟨k,rfl⟩:∃ j,k=j+1:=⟨k-1,by omega⟩
    rw [f3_l0_eq,ltI_f (a:=(q:Int)) (b:=101) (by omega)]
    cases ltI (q:Int) l.length
    · exact fin k z
    · exact fin k z
  | succ j ih =>
    intro k q z hq hql hk
    obtain ⟨k,rfl⟩:∃ j,k=j+1:=⟨k-1,by omega⟩
    rw [f3_l0_eq]
    by_cases h:q < l.length
    · rw [ltI_t (by omega),ltI_t (by omega),cond_true,cond_true,inR_nat h,cond_true,w64 (x:=(q:Int)+1) (by omega) (by omega)]
      have:=ih k (q+1) (mn2 (IntKind.wrap .i64 (z+(((nth l (Int.toNat q)).toStr).length:Int))) 1048576) (by omega) (by omega) (by omega)
      rw [show ((q+1:Nat):Int)=(q:Int)+1 by omega] at this
      exact this
    · rw [ltI_f (by omega),cond_false]
      exact fin k z
theorem topC_runs {l:List AV} {x y:Int} {s s':List UInt8} {i n i' n':Int} {P P':List AV} (hl:l.length≤maxLen) (hs:Short l) (hb:Blob32 P) (hb':Blob32 P') (ha:RunsX 4 [] ⟨[.bool true],[],false⟩) :
    RunsX 3 [.slice l,.agg [.int x,.int y],.agg [.agg [.str s,.agg [.int i,.int n,.slice P]],.agg [.str s',.agg [.int i',.int n',.slice P']]]] ⟨[.bool true],[],false⟩:=by
  by_cases hsm:l.length≤100∧s.length≤2000∧s'.length≤2000
  · obtain ⟨g1,g2,g3⟩:=hsm
    have r0:=refTreeRoot_runs (l:=l) (by omega) hs
    have r1:=refOpen_runs (l:=l) (i:=x) (by omega) hs
    have r2:=refOpen_runs (l:=l) (i:=y) (by omega) hs
    obtain ⟨t,u,f1,k1,k2,k3,k4⟩:=find_runs (root:=rootV l) (s:=s) (s':=s') (i:=i) (n:=n) (i':=i') (n':=n') (by omega) (by omega) hb hb'
    have r3:=is_runs (a:=t) (b:=u) (by omega) (by omega)
    have r4:=holdCheck_runs (root:=rootV l) (s:=s) (i:=i) (n:=n) (P:=P) (by omega) hb
    have r5:=holdCheck_runs (root:=rootV l) (s:=s') (i:=i') (n:=n') (P:=P') (by omega) hb'
    by_cases hx:0≤x∧x < l.length
    · have qx:=hs x.toNat (by omega)
      rw [openV_in hx.1 hx.2] at r1
      obtain ⟨t2,u2,f2,a1,a2,a3,a4⟩:=find_runs (root:=rootV l) (s:=(nth l x.toNat).toStr) (s':=s) (i:=x) (n:=(l.length:Int)) (i':=i) (n':=n) qx (by omega) (pathL_blob l x) hb
      have r6:=is_runs (a:=t2) (b:=u2) (by omega) (by omega)
      by_cases hy:0≤y∧y < l.length
      · have qy:=hs y.toNat (by omega)
        rw [openV_in hy.1 hy.2] at r2
        obtain ⟨t3,u3,f3,b1,b2,b3,b4⟩:=find_runs (root:=rootV l) (s:=(nth l x.toNat).toStr) (s':=(nth l y.toNat).toStr) (i:=x) (n:=(l.length:Int)) (i':=y) (n':=(l.length:Int)) qx qy (pathL_blob l x) (pathL_blob l y)
        have hsame:=bothV_self (rootV l) (nth l x.toNat).toStr x (l.length:Int) (pathL l x) (nth l y.toNat).toStr y (l.length:Int) (pathL l y) (fun e=>by rw [e])
        rw [hsame] at f3
        obtain ⟨rfl,rfl⟩:=b1 hsame
        refine Evt.succ (Evt.succ ((((((r0.and r1).and (r2.and f1)).and ((r3.and r4).and (r5.and f2))).and ((r6.and f3).and ha)).pred.and (Evt.ge 200)).mono fun m hm=>?_))
        obtain ⟨⟨⟨⟨⟨h0,h1⟩,h2,h3⟩,⟨h4,h5⟩,h6,h7⟩,⟨h8,h9⟩,h10⟩,hm⟩:=hm
        rw [f3_run,f3_eq]
        change f3_l0 (runE G ext (m+1)) (m+1) (m+1) l x y 0 ((0:Nat):Int) s i n P s' i' n' P'=_
        refine topC_l0 (n:=m+1) hl h10 (fun k0 _ _ _=>?_) 101 (m+1) 0 0 rfl (Nat.zero_le _) (by omega)
        rw [f3_j0_at,f3_j0b_eq,h0,step1,h1,step2,h2,step2]
        simp only [toInt_i,toBlob_b,fld0,fld1,fld2,toSlice_s]
        rw [eqI_t rfl,cond_true,cond_true,inR_int hx.1 hx.2,inR_int hy.1 hy.2,cond_true,cond_true,h9,step3,toBool_b,cond_false,toStr_s,eqS_t rfl,not_t,cond_false,cond_false]
        exact topC_j1 (fun _=>⟨hx.1,hx.2,rfl,opened_check (by omega) hx.1 hx.2⟩) (fun _=>h7) (fun _ e=>by rw [h8,a2 e]) h5 (topC_j2 h10 h3 (fun e=>by rw [h4,k2 e]) h5 h6)
      · rw [openV_out hy] at r2
        refine Evt.succ (Evt.succ ((((((r0.and r1).and (r2.and f1)).and ((r3.and r4).and (r5.and f2))).and (r6.and ha)).pred.and (Evt.ge 200)).mono fun m hm=>?_))
        obtain ⟨⟨⟨⟨⟨h0,h1⟩,h2,h3⟩,⟨h4,h5⟩,h6,h7⟩,h8,h10⟩,hm⟩:=hm
        rw [f3_run,f3_eq]
        change f3_l0 (runE G ext (m+1)) (m+1) (m+1) l x y 0 ((0:Nat):Int) s i n P s' i' n' P'=_
        refine topC_l0 (n:=m+1) hl h10 (fun k0 _ _ _=>?_) 101 (m+1) 0 0 rfl (Nat.zero_le _) (by omega)
        rw [f3_j0_at,f3_j0b_eq,h0,step1,h1,step2,h2,step2]
        simp only [toInt_i,toBlob_b,fld0,fld1,fld2,toSlice_s]
        rw [eqI_t rfl,cond_true,eqI_f (by omega),cond_false]
        exact topC_j1 (fun _=>⟨hx.1,hx.2,rfl,opened_check (by omega) hx.1 hx.2⟩) (fun _=>h7) (fun _ e=>by rw [h8,a2 e]) h5 (topC_j2 h10 h3 (fun e=>by rw [h4,k2 e]) h5 h6)
    · rw [openV_out hx] at r1
      obtain ⟨ai,an,aP,ae,e2⟩:=openV_shape l y
      rw [e2] at r2
      refine Evt.succ (Evt.succ ((((((r0.and r1).and (r2.and f1)).and ((r3.and r4).and r5)).and ha).pred.and (Evt.ge 200)).mono fun m hm=>?_))
      obtain ⟨⟨⟨⟨⟨h0,h1⟩,h2,h3⟩,⟨h4,h5⟩,h6⟩,h10⟩,hm⟩:=hm
      rw [f3_run,f3_eq]
      change f3_l0 (runE G ext (m+1)) (m+1) (m+1) l x y 0 ((0:Nat):Int) s i n P s' i' n' P'=_
      refine topC_l0 (n:=m+1) hl h10 (fun k0 _ _ _=>?_) 101 (m+1) 0 0 rfl (Nat.zero_le _) (by omega)
      rw [f3_j0_at,f3_j0b_eq,h0,step1,h1,step2,h2,step2]
      simp only [toInt_i,toBlob_b,fld0,fld1,fld2,toSlice_s]
      rw [eqI_f (by omega),cond_false]
      exact topC_j1 (t2:=[]) (u2:=[]) (fun e=>by omega) (fun e=>by omega) (fun e=>by omega) h5 (topC_j2 h10 h3 (fun e=>by rw [h4,k2 e]) h5 h6)
  · refine Evt.succ (Evt.succ ((ha.pred.and (Evt.ge 200)).mono fun m hm=>?_))
    rw [f3_run,f3_eq]
    change f3_l0 (runE G ext (m+1)) (m+1) (m+1) l x y 0 ((0:Nat):Int) s i n P s' i' n' P'=_
    exact topC_l0 (n:=m+1) hl hm.1 (fun k0 c1 c2 c3=>absurd ⟨c1,c2,c3⟩ hsm) 101 (m+1) 0 0 rfl (Nat.zero_le _) (by omega)
end Go.Proofs.YtlkkebfjmbfgpaaGreatDoor.Ev

namespace Go.Proofs.YtlkkebfjmbfgpaaGreatDoor.Ev
open Go Go.RowKit
theorem awake_sat:Sat Tryz.prog f4_info 4 [] ⟨[.bool true],[],false⟩:=fun S0 w0 vs bs ha hargs _=>by
  obtain ⟨rfl,_,rfl⟩:=hargs
  refine (awake_true w0).mono ?_
  rintro e w ⟨rfl,hb⟩
  exact ⟨S0,_,rfl,Snap.le_refl _,fun p u h=>.inl h,fun p u h=>(hb.cell (World.block_lt_of_cell? _ _ (ha p u h))).trans (ha p u h),⟨hb.os,hb.tape,hb.output,hb.size,fun k hk _=>hb.block k hk⟩,⟨_,rfl,⟨[.bool true],rfl,true,rfl,rfl⟩,fun h=>by cases h⟩,by simp [OutsRel,ptrTys,f4_info]⟩
theorem awake_ext:ext 4 []=some ⟨[.bool true],[],false⟩:=by
  show awakeX []=_
  unfold awakeX
  exact if_pos ⟨rfl,awake_sat⟩
theorem awake_runs:RunsX 4 [] ⟨[.bool true],[],false⟩:=⟨0,fun m _=>ext_at awake_ext m⟩
def openTy:Ty:=.struct [.str,.struct [.int .i64,.int .i64,.slice (.blob 32)]]
theorem open_has {y:AV} (h:openTy.Has y):∃ s i n P,y=.agg [.str s,.agg [.int i,.int n,.slice P]]∧Blob32 P:=by
  obtain ⟨l0,rfl,y0,s0,rfl,⟨s,rfl,_⟩,y1,s1,rfl,⟨l1,rfl,z0,t0,rfl,⟨i,rfl,_⟩,z1,t1,rfl,⟨n,rfl,_⟩,z2,t2,rfl,⟨P,rfl,_,_,hx⟩,rfl⟩,rfl⟩:=h
  exact ⟨s,i,n,P,rfl,blob32_of hx⟩
theorem two_of {l:List AV} (h:l.length=2):∃ a b,l=[a,b]:=by
  match l,h with
  | [a,b],_=>exact ⟨a,b,rfl⟩
theorem milepostClash_sat (xs:List AV) (h:Ty.HasL [.slice .str,.arr 2 (.int .i64),.arr 2 (.struct [.str,.struct [.int .i64,.int .i64,.slice (.blob 32)]])] xs):∃ r,r.vals=[.bool true]∧Sat Tryz.prog f3_info 3 xs r:=by
  obtain ⟨x,r,rfl,⟨l,rfl,hl,_,hx⟩,x',r',rfl,⟨l',rfl,hl',hx'⟩,y,r2,rfl,⟨m,rfl,hm,hy⟩,rfl⟩:=h
  obtain ⟨a,b,rfl⟩:=two_of hl'
  obtain ⟨c,d,rfl⟩:=two_of hm
  obtain ⟨u,rfl,_⟩:=hx' 0 a rfl
  obtain ⟨v,rfl,_⟩:=hx' 1 b rfl
  obtain ⟨s,i,n,P,rfl,hb⟩:=open_has (hy 0 c rfl)
  obtain ⟨s',i',n',P',rfl,hb'⟩:=open_has (hy 1 d rfl)
  exact ⟨_,rfl,sat_of_runsX (by kernel_rfl) (topC_runs hl (short_of hx) hb hb' awake_runs)⟩
end Go.Proofs.YtlkkebfjmbfgpaaGreatDoor.Ev

