import Derived.Test.YtlkkebfjmbfgpaaGreatDoorPrCJC
namespace Go.Proofs.YtlkkebfjmbfgpaaGreatDoor.Ev
open Go Go.ChangeShapes Go.WideShapes Go.ChangeAt Go.RowKit
def cells_first:List Value:=[.int .u8 240,.int .u8 240,.int .u8 240,.int .u8 240,.int .u8 240,.int .u8 240,.int .u8 240,.int .u8 240,.int .u8 240,.int .u8 240,.int .u8 240,.int .u8 240,.int .u8 240,.int .u8 240,.int .u8 240,.int .u8 240,.int .u8 240,.int .u8 240,.int .u8 240,.int .u8 240,.int .u8 240,.int .u8 240,.int .u8 240,.int .u8 240,.int .u8 240,.int .u8 240,.int .u8 240,.int .u8 240,.int .u8 240,.int .u8 240,.int .u8 240,.int .u8 240,.int .u8 240,.int .u8 240,.int .u8 240,.int .u8 240,.int .u8 240,.int .u8 240,.int .u8 240,.int .u8 240,.int .u8 240,.int .u8 240,.int .u8 240,.int .u8 240,.int .u8 240,.int .u8 240,.int .u8 240,.int .u8 240,.int .u8 240,.int .u8 240,.int .u8 240,.int .u8 240,.int .u8 240,.int .u8 240,.int .u8 240,.int .u8 240,.int .u8 240,.int .u8 240,.int .u8 240,.int .u8 240,.int .u8 240,.int .u8 240,.int .u8 240,.int .u8 240,.int .u8 240,.int .u8 240,.int .u8 240,.int .u8 240,.int .u8 240,.int .u8 240,.int .u8 240,.int .u8 240,.int .u8 240,.int .u8 240,.int .u8 240,.int .u8 240,.int .u8 240,.int .u8 240,.int .u8 240,.int .u8 240,.int .u8 240,.int .u8 240,.int .u8 240,.int .u8 240,.int .u8 240,.int .u8 240,.int .u8 240,.int .u8 240,.int .u8 240,.int .u8 240,.int .u8 240,.int .u8 240,.int .u8 240,.int .u8 240,.int .u8 240,.int .u8 240,.int .u8 240,.int .u8 240,.int .u8 240,.int .u8 240,.int .u8 240,.int .u8 240,.int .u8 240,.int .u8 240,.int .u8 240,.int .u8 240,.int .u8 240,.int .u8 240,.int .u8 240,.int .u8 240,.int .u8 240,.int .u8 240,.int .u8 240,.int .u8 240,.int .u8 240,.int .u8 240,.int .u8 240,.int .u8 240,.int .u8 240,.int .u8 240,.int .u8 240,.int .u8 240,.int .u8 240,.int .u8 240,.int .u8 240,.int .u8 240,.int .u8 240,.int .u8 240,.int .u8 241,.int .u8 241,.int .u8 241,.int .u8 241,.int .u8 241,.int .u8 241,.int .u8 241,.int .u8 241,.int .u8 241,.int .u8 241,.int .u8 241,.int .u8 241,.int .u8 241,.int .u8 241,.int .u8 241,.int .u8 241,.int .u8 241,.int .u8 241,.int .u8 241,.int .u8 241,.int .u8 241,.int .u8 241,.int .u8 241,.int .u8 241,.int .u8 241,.int .u8 241,.int .u8 241,.int .u8 241,.int .u8 241,.int .u8 241,.int .u8 241,.int .u8 241,.int .u8 241,.int .u8 241,.int .u8 241,.int .u8 241,.int .u8 241,.int .u8 241,.int .u8 241,.int .u8 241,.int .u8 241,.int .u8 241,.int .u8 241,.int .u8 241,.int .u8 241,.int .u8 241,.int .u8 241,.int .u8 241,.int .u8 241,.int .u8 241,.int .u8 241,.int .u8 241,.int .u8 241,.int .u8 241,.int .u8 241,.int .u8 241,.int .u8 241,.int .u8 241,.int .u8 241,.int .u8 241,.int .u8 241,.int .u8 241,.int .u8 241,.int .u8 241,.int .u8 241,.int .u8 241,.int .u8 2,.int .u8 2,.int .u8 2,.int .u8 2,.int .u8 2,.int .u8 2,.int .u8 2,.int .u8 2,.int .u8 2,.int .u8 2,.int .u8 2,.int .u8 2,.int .u8 2,.int .u8 2,.int .u8 2,.int .u8 2,.int .u8 2,.int .u8 2,.int .u8 2,.int .u8 2,.int .u8 2,.int .u8 2,.int .u8 2,.int .u8 2,.int .u8 2,.int .u8 2,.int .u8 2,.int .u8 2,.int .u8 2,.int .u8 2,.int .u8 19,.int .u8 3,.int .u8 3,.int .u8 3,.int .u8 3,.int .u8 3,.int .u8 3,.int .u8 3,.int .u8 3,.int .u8 3,.int .u8 3,.int .u8 3,.int .u8 3,.int .u8 35,.int .u8 3,.int .u8 3,.int .u8 52,.int .u8 4,.int .u8 4,.int .u8 4,.int .u8 68,.int .u8 241,.int .u8 241,.int .u8 241,.int .u8 241,.int .u8 241,.int .u8 241,.int .u8 241,.int .u8 241,.int .u8 241,.int .u8 241,.int .u8 241]
def cells_accept:List Value:=[.int .u8 128,.int .u8 191,.int .u8 160,.int .u8 191,.int .u8 128,.int .u8 159,.int .u8 144,.int .u8 191,.int .u8 128,.int .u8 143,.int .u8 0,.int .u8 0,.int .u8 0,.int .u8 0,.int .u8 0,.int .u8 0,.int .u8 0,.int .u8 0,.int .u8 0,.int .u8 0,.int .u8 0,.int .u8 0,.int .u8 0,.int .u8 0,.int .u8 0,.int .u8 0,.int .u8 0,.int .u8 0,.int .u8 0,.int .u8 0,.int .u8 0,.int .u8 0]
def cells_pow:List Value:=[.int .u64 1,.int .u64 10,.int .u64 100,.int .u64 1000,.int .u64 10000,.int .u64 100000,.int .u64 1000000,.int .u64 10000000,.int .u64 100000000,.int .u64 1000000000,.int .u64 10000000000,.int .u64 100000000000,.int .u64 1000000000000,.int .u64 10000000000000,.int .u64 100000000000000,.int .u64 1000000000000000,.int .u64 10000000000000000,.int .u64 100000000000000000,.int .u64 1000000000000000000,.int .u64 10000000000000000000]
def cells_b32:List Value:=[.int .u8 0,.int .u8 1,.int .u8 28,.int .u8 2,.int .u8 29,.int .u8 14,.int .u8 24,.int .u8 3,.int .u8 30,.int .u8 22,.int .u8 20,.int .u8 15,.int .u8 25,.int .u8 17,.int .u8 4,.int .u8 8,.int .u8 31,.int .u8 27,.int .u8 13,.int .u8 23,.int .u8 21,.int .u8 19,.int .u8 16,.int .u8 7,.int .u8 26,.int .u8 12,.int .u8 18,.int .u8 6,.int .u8 11,.int .u8 5,.int .u8 10,.int .u8 9]
def cells_b64:List Value:=[.int .u8 0,.int .u8 1,.int .u8 56,.int .u8 2,.int .u8 57,.int .u8 49,.int .u8 28,.int .u8 3,.int .u8 61,.int .u8 58,.int .u8 42,.int .u8 50,.int .u8 38,.int .u8 29,.int .u8 17,.int .u8 4,.int .u8 62,.int .u8 47,.int .u8 59,.int .u8 36,.int .u8 45,.int .u8 43,.int .u8 51,.int .u8 22,.int .u8 53,.int .u8 39,.int .u8 33,.int .u8 30,.int .u8 24,.int .u8 18,.int .u8 12,.int .u8 5,.int .u8 63,.int .u8 55,.int .u8 48,.int .u8 27,.int .u8 60,.int .u8 41,.int .u8 37,.int .u8 16,.int .u8 46,.int .u8 35,.int .u8 44,.int .u8 21,.int .u8 52,.int .u8 32,.int .u8 23,.int .u8 11,.int .u8 54,.int .u8 26,.int .u8 40,.int .u8 15,.int .u8 34,.int .u8 20,.int .u8 31,.int .u8 10,.int .u8 25,.int .u8 14,.int .u8 19,.int .u8 9,.int .u8 13,.int .u8 8,.int .u8 7,.int .u8 6]
def rankB (b:Nat):Nat:=if b=5 then 0 else if b=6 then 1 else if b=4 then 2 else if b=3 then 3 else 4
def upFrom:Nat→List MemPlace→Bool
  | _,[]=>true
  | k,.cell b off::r=>Nat.blt k (rankB b*1000+off+1)&&upFrom (rankB b*1000+off+1) r
  | _,.map _::_=>false
def keyP:MemPlace→Nat
  | .cell b off=>rankB b*1000+off+1
  | .map _=>0
theorem upFrom_all:∀ {ps:List MemPlace} {k:Nat},upFrom k ps=true→(∀ p∈ps,k < keyP p)∧ps.Nodup
  | [],_,_=>⟨fun _ h=>(by cases h),List.nodup_nil⟩
  | .map _::_,_,h=>by cases h
  | .cell b off::r,k,h=>by
    simp only [upFrom,Bool.and_eq_true] at h
    obtain ⟨h1,h2⟩:=h
    have h1:k < rankB b*1000+off+1:=by simpa [Nat.blt_eq] using h1
    obtain ⟨h3,h4⟩:=upFrom_all h2
    refine ⟨fun p hp=>?_,List.nodup_cons.2 ⟨fun hm=>?_,h4⟩⟩
    · rcases List.mem_cons.1 hp with rfl | hp
      · exact h1
      · exact Nat.lt_trans h1 (h3 p hp)
    · exact Nat.lt_irrefl _ (h3 _ hm)
theorem laidMet_of_keys {P:Program} {w:World} {l:List (String × DataW Unit)} (fuel:Nat) (h:(DataW.laidRun P w fuel (l.map (·.1))).map (·.1)=some l)
    (hr:(DataW.laidRun P w fuel (l.map (·.1))).map (fun x=>upFrom 0 x.2&&laidRowsB P w x.2)=some true):laidMet P l w:=by
  cases hx:DataW.laidRun P w fuel (l.map (·.1)) with
  | none=>simp [hx] at h
  | some x =>
    obtain ⟨l',ps⟩:=x
    simp only [hx,Option.map_some,Option.some.injEq] at h hr
    subst h
    simp only [Bool.and_eq_true] at hr
    exact laidMet_of_run fuel hx (decide_eq_true (upFrom_all hr.1).2) hr.2
noncomputable def handleV:List Value:=[.iface 283 (.agg #[typeHandle Tryz.prog 93])]
noncomputable def laidHeap (h:Array Obj):Array Obj:=⟨[.cells handleV.toArray 224,.cells #[.int .i64 0] 3,.cells cells_first.toArray 378,.cells cells_accept.toArray 381,.cells cells_pow.toArray 421,.cells cells_b32.toArray 31,.cells cells_b64.toArray 427]++h.toList.drop 7⟩
noncomputable def laidWorld (os:Os):World:={ World.holding Tryz.prog os ⟨#[],#[],[]⟩ with heap:=laidHeap (World.holding Tryz.prog os ⟨#[],#[],[]⟩).heap }
def witArgs:Array Value:=#[.slice none 0 0,.agg #[.int .i64 0,.int .i64 0],.agg #[.string ⟨#[]⟩,.int .i64 0,.int .i64 0,.slice none 0 0,.string ⟨#[]⟩,.int .i64 0,.int .i64 0,.slice none 0 0]]
noncomputable def witWorld (os:Os):World:=(laidWorld os).forCall (fun _ _=>0) ⟨#[],witArgs,[]⟩
theorem wit_run (os:Os):(DataW.laidRun Tryz.prog (witWorld os).memory 8 ((Rows.milepostClashRow.laid.filter fun x=>x.2.handleName?.isNone).map (·.1))).map (·.1)=some (Rows.milepostClashRow.laid.filter fun x=>x.2.handleName?.isNone):=by kernel_rfl
theorem wit_rows (os:Os):(DataW.laidRun Tryz.prog (witWorld os).memory 8 ((Rows.milepostClashRow.laid.filter fun x=>x.2.handleName?.isNone).map (·.1))).map (fun x=>upFrom 0 x.2&&laidRowsB Tryz.prog (witWorld os).memory x.2)=some true:=by kernel_rfl
theorem wit_handle (os:Os):(Rows.milepostClashRow.laid.filter fun x=>x.2.handleName?.isSome).all (handleAtB Tryz.prog (witWorld os).memory)=true:=by kernel_rfl
theorem wit_vars (os:Os):(witWorld os).variablesB Tryz.prog=true:=by kernel_rfl
theorem wit_rest (os:Os):((witWorld os).heap.toList.drop Tryz.prog.globals.size).take ((begin Tryz.prog (fun _ _=>0) default).world.heap.size-Tryz.prog.globals.size)=(begin Tryz.prog (fun _ _=>0) default).world.heap.toList.drop Tryz.prog.globals.size:=by kernel_rfl
theorem wit_ok (os:Os):Input.okWideB Tryz.prog (witWorld os) 3 ⟨#[],witArgs,[]⟩=true:=by kernel_rfl
theorem wit_pre (os:Os) {H:Type} (enc:TypeId × Value→H):Rows.milepostClashSpec.preB enc Tryz.prog Tryz.f3 Rows.milepostClashRow.domain false (witWorld os).memory witArgs 8=true:=by kernel_rfl
theorem wit_size (os:Os) {H:Type} (enc:TypeId × Value→H):Rows.milepostClashSpec.sizedB enc Tryz.prog Tryz.f3 false (witWorld os).memory witArgs 8=true:=by kernel_rfl
theorem laid_met (os:Os):laidMetH Tryz.prog Rows.milepostClashRow.laid (witWorld os).memory:=laidMetH_of_parts (laidMet_of_keys 8 (wit_run os) (wit_rows os)) (wit_handle os)
end Go.Proofs.YtlkkebfjmbfgpaaGreatDoor.Ev

