/-
  The heap ahead of the call of put within lives, and behind it: data alone.
-/
import Derived.Test.YtpmildboffolkaaGreatImages
set_option linter.unusedVariables false
set_option linter.unusedSimpArgs false
open Go Go.Proofs.YtpmildboffolkaaGreat.Abs
namespace Go.Proofs.YtpmildboffolkaaGreat
def nargs19_2641 : List AV := [(AV.ptr 33 0), (AV.agg [(AV.int IntKind.i64 (Int.ofNat 1)), (AV.str 1 107), (AV.str 1 118), (AV.str 3 6382179)])]
def nval19_2641 : AV := (AV.tuple [(AV.bool true), (AV.bool true)])
def nfrom19_2641p0 : List (Nat × AEnt) := [(Prod.mk 2613 (AEnt.mk (AObj.row (Chunk.cells [(AV.int IntKind.i64 (Int.ofNat 6))]) 3 true) none)),
 (Prod.mk 2639 (AEnt.mk (AObj.row (Chunk.cells [(AV.int IntKind.i64 (Int.ofNat 512)), (AV.int IntKind.i64 (Int.ofNat 4)), (AV.int IntKind.u64 (Int.ofNat 1)), AV.nils, (AV.int IntKind.i64 (Int.ofNat 0)), (AV.int IntKind.i64 (Int.ofNat 0))]) 231 false) none)),
 (Prod.mk 1438 (AEnt.mk (AObj.map [] 0) none)),
 (Prod.mk 1522 (AEnt.mk (AObj.row (Chunk.cells [AV.nils]) 532 false) none)),
 (Prod.mk 1523 (AEnt.mk (AObj.row (Chunk.cells [(AV.ptr 1522 0)]) 473 false) none)),
 (Prod.mk 1519 (AEnt.mk (AObj.row (Chunk.cells [(AV.int IntKind.i64 (Int.ofNat 1024)), (AV.int IntKind.i64 (Int.ofNat 4)), (AV.int IntKind.i64 (Int.ofNat 64)), (AV.ptr 1523 0), AV.nils, AV.nils, AV.nils, AV.nils, AV.nils, AV.nils, AV.nils, AV.nils, AV.nils, AV.nils, AV.nils, AV.nils, AV.nils, AV.nils, AV.nils, AV.nils]) 397 false) none)),
 (Prod.mk 1262 (AEnt.mk (AObj.row (Chunk.bytes 58 186070713419675363980626894819329160794532188335953423432061490990243657757029868371504908982723472783555205531204141550984858016925351936) 5 false) none)),
 (Prod.mk 1263 (AEnt.mk (AObj.row (Chunk.cells [(AV.int IntKind.i64 (Int.ofNat 6)), (AV.slice 1262 0 58 (ACap.exact 58)), (AV.int IntKind.i64 (Int.ofNat 57)), (AV.int IntKind.i64 (Int.ofNat 1)), (AV.int IntKind.i64 (Int.ofNat 0)), (AV.int IntKind.i64 (Int.ofNat 0))]) 162 false) none)),
 (Prod.mk 1163 (AEnt.mk (AObj.row (Chunk.cells [(AV.str 13 158456325028528675195677835265), (AV.str 12 36893488151714070529)]) 9 true) none)),
 (Prod.mk 1161 (AEnt.mk (AObj.row (Chunk.cells [(AV.str 9 1936908127739502919681), (AV.str 1 115)]) 9 true) none)),
 (Prod.mk 1635 (AEnt.mk (AObj.row (Chunk.cells [(AV.bool true), (AV.slice 1161 0 2 (ACap.rest 0)), (AV.slice 1163 0 2 (ACap.rest 0)), AV.nils, AV.nils, (AV.int IntKind.i64 (Int.ofNat 6)), (AV.bool true)]) 245 false) none)),
 (Prod.mk 1934 (AEnt.mk (AObj.row (Chunk.cells [(AV.int IntKind.i64 (Int.ofNat 512)), AV.nili, (AV.ptr 1635 0)]) 152 false) none)),
 (Prod.mk 1439 (AEnt.mk (AObj.row (Chunk.cells [(AV.int IntKind.i64 (Int.ofNat 512)), (AV.int IntKind.i64 (Int.ofNat 64)), (AV.int IntKind.i64 (Int.ofNat 4)), (AV.int IntKind.i64 (Int.ofNat 2)), (AV.int IntKind.i64 (Int.ofNat 8)), (AV.int IntKind.i64 (Int.ofNat 16)), (AV.int IntKind.i64 (Int.ofNat 64)), (AV.int IntKind.u64 (Int.ofNat 0)), (AV.int IntKind.i64 (Int.ofNat 256)), (AV.bool true), (AV.ptr 1934 0), (AV.ptr 1263 0), (AV.iface 101 (AV.agg [(AV.ptr 10 0)])), (AV.ptr 1519 0), (AV.bool true), AV.nilp, (AV.int IntKind.i64 (Int.ofNat 0)), (AV.map 1438)]) 167 false) none)),
 (Prod.mk 9 (AEnt.mk (AObj.map [((AV.int IntKind.i64 (Int.ofNat 6)), (AV.ptr 1964 0), 0), ((AV.int IntKind.i64 (Int.ofNat 1)), (AV.ptr 2447 0), 1)] 2) none)),
 (Prod.mk 2509 (AEnt.mk (AObj.row (Chunk.bytes 512 img1) 5 true) none)),
 (Prod.mk 2026 (AEnt.mk (AObj.row (Chunk.bytes 512 img2) 5 true) none)),
 (Prod.mk 1964 (AEnt.mk (AObj.row (Chunk.cells [(AV.ptr 8 0), (AV.ptr 2447 0), (AV.int IntKind.i64 (Int.ofNat 6)), (AV.int IntKind.i64 (Int.ofNat 0)), (AV.bool false), (AV.int IntKind.u64 (Int.ofNat 0)), (AV.slice 2026 0 512 (ACap.rest 0))]) 261 false) none)),
 (Prod.mk 2447 (AEnt.mk (AObj.row (Chunk.cells [(AV.ptr 1964 0), (AV.ptr 8 0), (AV.int IntKind.i64 (Int.ofNat 1)), (AV.int IntKind.i64 (Int.ofNat 0)), (AV.bool false), (AV.int IntKind.u64 (Int.ofNat 0)), (AV.slice 2509 0 512 (ACap.rest 0))]) 261 false) none)),
 (Prod.mk 8 (AEnt.mk (AObj.row (Chunk.cells [(AV.ptr 2447 0), (AV.ptr 1964 0), (AV.int IntKind.i64 (Int.ofNat 0)), (AV.int IntKind.i64 (Int.ofNat 0)), (AV.bool false), (AV.int IntKind.u64 (Int.ofNat 0)), AV.nils]) 261 false) none)),
 (Prod.mk 10 (AEnt.mk (AObj.row (Chunk.cells [(AV.ptr 6 0), (AV.int IntKind.i64 (Int.ofNat 64)), (AV.ptr 8 0), (AV.map 9), (AV.int IntKind.i64 (Int.ofNat 0)), (AV.int IntKind.i64 (Int.ofNat 0)), (AV.int IntKind.i64 (Int.ofNat 2)), (AV.int IntKind.i64 (Int.ofNat 0))]) 266 false) none)),
 (Prod.mk 5 (AEnt.mk (AObj.row (Chunk.bytes 32768 img3) 5 false) none)),
 (Prod.mk 6 (AEnt.mk (AObj.row (Chunk.cells [(AV.int IntKind.i64 (Int.ofNat 512)), (AV.int IntKind.i64 (Int.ofNat 64)), (AV.slice 5 0 32768 (ACap.exact 32768)), AV.nils, (AV.int IntKind.i64 (Int.ofNat 0)), (AV.int IntKind.i64 (Int.ofNat 2)), (AV.int IntKind.i64 (Int.ofNat 2)), (AV.bool false), (AV.int IntKind.i64 (Int.ofNat 0))]) 124 false) none)),
 (Prod.mk 33 (AEnt.mk (AObj.row (Chunk.cells [(AV.ptr 6 0), (AV.ptr 10 0), (AV.int IntKind.u64 (Int.ofNat 1)), (AV.int IntKind.i64 (Int.ofNat 6)), (AV.int IntKind.i64 (Int.ofNat 512)), (AV.int IntKind.i64 (Int.ofNat 64)), (AV.int IntKind.i64 (Int.ofNat 4)), (AV.int IntKind.i64 (Int.ofNat 2)), (AV.int IntKind.i64 (Int.ofNat 8)), (AV.int IntKind.i64 (Int.ofNat 16)), (AV.int IntKind.i64 (Int.ofNat 64)), (AV.int IntKind.u64 (Int.ofNat 0)), (AV.int IntKind.i64 (Int.ofNat 256)), (AV.bool true), (AV.ptr 1439 0), (AV.ptr 2639 0), (AV.int IntKind.u64 (Int.ofNat 2)), (AV.slice 2613 0 1 (ACap.rest 0)), AV.nilp, (AV.int IntKind.i64 (Int.ofNat 512)), (AV.int IntKind.i64 (Int.ofNat 64)), (AV.int IntKind.i64 (Int.ofNat 4)), (AV.int IntKind.i64 (Int.ofNat 2)), (AV.int IntKind.i64 (Int.ofNat 8)), (AV.int IntKind.i64 (Int.ofNat 16)), (AV.int IntKind.i64 (Int.ofNat 64)), (AV.int IntKind.u64 (Int.ofNat 0)), (AV.int IntKind.i64 (Int.ofNat 256)), (AV.bool true)]) 99 false) none))]
def nfrom19_2641 : List (Nat × AEnt) := nfrom19_2641p0
def nto19_2641p0 : List (Nat × AEnt) := [(Prod.mk 2613 (AEnt.mk (AObj.row (Chunk.cells [(AV.int IntKind.i64 (Int.ofNat 6))]) 3 true) none)),
 (Prod.mk 14915 (AEnt.mk (AObj.row (Chunk.bytes 110 198956796348064076681693753187283207362765405563432637917678673750808093512237296775834472010906723200476736580880901557018397652958256320560623151979266321144278055739737852673170562262683577879216748016465504162045964568148029728197706819637072087155933558) 5 true) none)),
 (Prod.mk 14861 (AEnt.mk (AObj.row (Chunk.cells [(AV.slice 14915 0 110 (ACap.rest 0))]) 111 true) none)),
 (Prod.mk 2639 (AEnt.mk (AObj.row (Chunk.cells [(AV.int IntKind.i64 (Int.ofNat 512)), (AV.int IntKind.i64 (Int.ofNat 4)), (AV.int IntKind.u64 (Int.ofNat 1)), (AV.slice 14861 0 1 (ACap.rest 0)), (AV.int IntKind.i64 (Int.ofNat 0)), (AV.int IntKind.i64 (Int.ofNat 1))]) 231 false) none)),
 (Prod.mk 2649 (AEnt.mk (AObj.map [] 0) none)),
 (Prod.mk 11385 (AEnt.mk (AObj.row (Chunk.cells [(AV.int IntKind.i64 (Int.ofNat 24)), (AV.int IntKind.i64 (Int.ofNat 3))]) 204 true) none)),
 (Prod.mk 10460 (AEnt.mk (AObj.row (Chunk.bytes 1024 img4) 5 false) none)),
 (Prod.mk 10461 (AEnt.mk (AObj.row (Chunk.cells [(AV.int IntKind.i64 (Int.ofNat 512)), (AV.int IntKind.i64 (Int.ofNat 2)), (AV.int IntKind.u32 (Int.ofNat 1)), (AV.slice 10460 0 1024 (ACap.exact 1024)), (AV.slice 11385 0 1 (ACap.rest 0)), (AV.bool false), AV.nils, (AV.int IntKind.i64 (Int.ofNat 0)), (AV.bool false)]) 360 false) none)),
 (Prod.mk 13004 (AEnt.mk (AObj.row (Chunk.cells [(AV.str 36 362247714319235985756684684220873532455559735399979567431117323589145154342613564784641), (AV.str 36 362247714319235985756684684220873532455559735399979567431117323589145154342613564784641), (AV.str 0 0), (AV.bool false)]) 426 true) none)),
 (Prod.mk 10111 (AEnt.mk (AObj.row (Chunk.cells [(AV.slice 13004 0 1 (ACap.rest 0))]) 532 false) none)),
 (Prod.mk 10112 (AEnt.mk (AObj.row (Chunk.cells [(AV.ptr 10111 0)]) 473 false) none)),
 (Prod.mk 10108 (AEnt.mk (AObj.row (Chunk.cells [(AV.int IntKind.i64 (Int.ofNat 1024)), (AV.int IntKind.i64 (Int.ofNat 4)), (AV.int IntKind.i64 (Int.ofNat 64)), (AV.ptr 10112 0), AV.nils, AV.nils, AV.nils, AV.nils, AV.nils, AV.nils, AV.nils, AV.nils, AV.nils, AV.nils, AV.nils, AV.nils, AV.nils, AV.nils, AV.nils, AV.nils]) 397 false) none)),
 (Prod.mk 2645 (AEnt.mk (AObj.row (Chunk.bytes 58 186800391357737750585592426923341727846598148608205926328515955760514846417362459255469092967229086988043939781410432206175945488091578368) 5 true) none)),
 (Prod.mk 2643 (AEnt.mk (AObj.row (Chunk.cells [(AV.int IntKind.i64 (Int.ofNat 6)), (AV.slice 2645 0 58 (ACap.rest 0)), (AV.int IntKind.i64 (Int.ofNat 55)), (AV.int IntKind.i64 (Int.ofNat 3)), (AV.int IntKind.i64 (Int.ofNat 0)), (AV.int IntKind.i64 (Int.ofNat 0))]) 162 false) none)),
 (Prod.mk 14474 (AEnt.mk (AObj.row (Chunk.cells [(AV.str 48 28700220780505229244917546663299224439232890837259128056828040928164330781307648022306680758849674794849658153730049), (AV.str 13 158456325028528675195677835265), (AV.str 12 129127208520261828609), (AV.str 12 36893488156009037826)]) 9 true) (some 14514))),
 (Prod.mk 14514 (AEnt.mk (AObj.row (Chunk.cells [(AV.str 48 28700220780505229244917546663299224439232890837259128056828040928164330781307648022306680758849674794849658153730049), (AV.str 13 158456325028528675195677835265), (AV.str 12 129127208520261828609), (AV.str 12 36893488156009037826), (AV.str 1 118)]) 9 true) (some 14474))),
 (Prod.mk 14472 (AEnt.mk (AObj.row (Chunk.cells [(AV.str 9 1826227663297245609985), (AV.str 9 1936908127739502919681), (AV.str 9 1973801615886922022913), (AV.str 1 115)]) 9 true) (some 14512))),
 (Prod.mk 14512 (AEnt.mk (AObj.row (Chunk.cells [(AV.str 9 1826227663297245609985), (AV.str 9 1936908127739502919681), (AV.str 9 1973801615886922022913), (AV.str 1 115), (AV.str 2 31339)]) 9 true) (some 14472))),
 (Prod.mk 14521 (AEnt.mk (AObj.row (Chunk.cells [(AV.bool true), (AV.slice 14512 0 5 (ACap.rest 0)), (AV.slice 14514 0 5 (ACap.rest 0)), AV.nils, AV.nils, (AV.int IntKind.i64 (Int.negSucc 0)), (AV.bool true)]) 245 false) none)),
 (Prod.mk 14566 (AEnt.mk (AObj.row (Chunk.cells [(AV.int IntKind.i64 (Int.ofNat 512)), AV.nili, (AV.ptr 14521 0)]) 152 false) none)),
 (Prod.mk 2642 (AEnt.mk (AObj.row (Chunk.cells [(AV.int IntKind.i64 (Int.ofNat 512)), (AV.int IntKind.i64 (Int.ofNat 64)), (AV.int IntKind.i64 (Int.ofNat 4)), (AV.int IntKind.i64 (Int.ofNat 2)), (AV.int IntKind.i64 (Int.ofNat 8)), (AV.int IntKind.i64 (Int.ofNat 16)), (AV.int IntKind.i64 (Int.ofNat 64)), (AV.int IntKind.u64 (Int.ofNat 0)), (AV.int IntKind.i64 (Int.ofNat 256)), (AV.bool true), (AV.ptr 14566 0), (AV.ptr 2643 0), (AV.iface 101 (AV.agg [(AV.ptr 10 0)])), (AV.ptr 10108 0), (AV.bool true), (AV.ptr 10461 0), (AV.int IntKind.i64 (Int.ofNat 1)), (AV.map 2649)]) 167 false) none)),
 (Prod.mk 9 (AEnt.mk (AObj.map [((AV.int IntKind.i64 (Int.ofNat 6)), (AV.ptr 1964 0), 0), ((AV.int IntKind.i64 (Int.ofNat 1)), (AV.ptr 2447 0), 1)] 2) none)),
 (Prod.mk 2509 (AEnt.mk (AObj.row (Chunk.bytes 512 img1) 5 true) none)),
 (Prod.mk 2026 (AEnt.mk (AObj.row (Chunk.bytes 512 img2) 5 true) none)),
 (Prod.mk 1964 (AEnt.mk (AObj.row (Chunk.cells [(AV.ptr 8 0), (AV.ptr 2447 0), (AV.int IntKind.i64 (Int.ofNat 6)), (AV.int IntKind.i64 (Int.ofNat 0)), (AV.bool false), (AV.int IntKind.u64 (Int.ofNat 0)), (AV.slice 2026 0 512 (ACap.rest 0))]) 261 false) none)),
 (Prod.mk 2447 (AEnt.mk (AObj.row (Chunk.cells [(AV.ptr 1964 0), (AV.ptr 8 0), (AV.int IntKind.i64 (Int.ofNat 1)), (AV.int IntKind.i64 (Int.ofNat 0)), (AV.bool false), (AV.int IntKind.u64 (Int.ofNat 0)), (AV.slice 2509 0 512 (ACap.rest 0))]) 261 false) none)),
 (Prod.mk 8 (AEnt.mk (AObj.row (Chunk.cells [(AV.ptr 2447 0), (AV.ptr 1964 0), (AV.int IntKind.i64 (Int.ofNat 0)), (AV.int IntKind.i64 (Int.ofNat 0)), (AV.bool false), (AV.int IntKind.u64 (Int.ofNat 0)), AV.nils]) 261 false) none)),
 (Prod.mk 10 (AEnt.mk (AObj.row (Chunk.cells [(AV.ptr 6 0), (AV.int IntKind.i64 (Int.ofNat 64)), (AV.ptr 8 0), (AV.map 9), (AV.int IntKind.i64 (Int.ofNat 0)), (AV.int IntKind.i64 (Int.ofNat 0)), (AV.int IntKind.i64 (Int.ofNat 2)), (AV.int IntKind.i64 (Int.ofNat 0))]) 266 false) none)),
 (Prod.mk 5 (AEnt.mk (AObj.row (Chunk.bytes 32768 img3) 5 false) none)),
 (Prod.mk 6 (AEnt.mk (AObj.row (Chunk.cells [(AV.int IntKind.i64 (Int.ofNat 512)), (AV.int IntKind.i64 (Int.ofNat 64)), (AV.slice 5 0 32768 (ACap.exact 32768)), AV.nils, (AV.int IntKind.i64 (Int.ofNat 0)), (AV.int IntKind.i64 (Int.ofNat 2)), (AV.int IntKind.i64 (Int.ofNat 2)), (AV.bool false), (AV.int IntKind.i64 (Int.ofNat 0))]) 124 false) none)),
 (Prod.mk 33 (AEnt.mk (AObj.row (Chunk.cells [(AV.ptr 6 0), (AV.ptr 10 0), (AV.int IntKind.u64 (Int.ofNat 1)), (AV.int IntKind.i64 (Int.ofNat 6)), (AV.int IntKind.i64 (Int.ofNat 512)), (AV.int IntKind.i64 (Int.ofNat 64)), (AV.int IntKind.i64 (Int.ofNat 4)), (AV.int IntKind.i64 (Int.ofNat 2)), (AV.int IntKind.i64 (Int.ofNat 8)), (AV.int IntKind.i64 (Int.ofNat 16)), (AV.int IntKind.i64 (Int.ofNat 64)), (AV.int IntKind.u64 (Int.ofNat 0)), (AV.int IntKind.i64 (Int.ofNat 256)), (AV.bool true), (AV.ptr 2642 0), (AV.ptr 2639 0), (AV.int IntKind.u64 (Int.ofNat 2)), (AV.slice 2613 0 1 (ACap.rest 0)), AV.nilp, (AV.int IntKind.i64 (Int.ofNat 512)), (AV.int IntKind.i64 (Int.ofNat 64)), (AV.int IntKind.i64 (Int.ofNat 4)), (AV.int IntKind.i64 (Int.ofNat 2)), (AV.int IntKind.i64 (Int.ofNat 8)), (AV.int IntKind.i64 (Int.ofNat 16)), (AV.int IntKind.i64 (Int.ofNat 64)), (AV.int IntKind.u64 (Int.ofNat 0)), (AV.int IntKind.i64 (Int.ofNat 256)), (AV.bool true)]) 99 false) none))]
def nto19_2641 : List (Nat × AEnt) := nto19_2641p0
def nnext19_2641 : Nat := 2641
def nnextto19_2641 : Nat := 14916
end Go.Proofs.YtpmildboffolkaaGreat
