/-
  A key put into zeros: reference and program, by contracts.
-/
import Derived.Test.YtlcpchpodcchlaaPutZerosA
import Derived.Test.YtlcpchpodcchlaaZeroCount
namespace Go.Proofs.Ytlcpchpodcchlaa
open Go.RowKit
set_option linter.unusedVariables false

/-- What PutZeros returns. -/
def pPutZeros (s : Int) (x : List Int) (key : Int) : (Int × List Int) × Bool := pPutZerosL lzN s x key
theorem sPutZeros_any (s : Int) (A : Option Addr) (c : Nat) (x : List Int) (key : Int) (w : World) (hs : W64 s) (hx : RdL (Value.int .i64) w A x) (hn : x.length ≤ 1048576) (we : ∀ y ∈ x, W64 y) (hkey : W64 key) :
    Calls Try.prog 63 #[.agg #[.int .i64 s, .slice A x.length c], .int .i64 key] w (RetIL w (pPutZeros s x key)) :=
  sPutZeros_of lzN lzN_le (fun x w h => l02Zeros_any x w h) s A c x key w hs hx hn we hkey
theorem iPutZeros_any (s : Int) (A : Option Addr) (c : Nat) (x : List Int) (key : Int) (w : World) (hs : W64 s) (hx : RdL (Value.int .i64) w A x) (hn : x.length ≤ 1048576) (we : ∀ y ∈ x, W64 y) (hkey : W64 key) :
    Calls Try.prog 64 #[.agg #[.int .i64 s, .slice A x.length c], .int .i64 key] w (RetIL w (pPutZeros s x key)) :=
  iPutZeros_of lzN lzN_le (fun x w h => ZerosOf_any x w h) s A c x key w hs hx hn we hkey
end Go.Proofs.Ytlcpchpodcchlaa
