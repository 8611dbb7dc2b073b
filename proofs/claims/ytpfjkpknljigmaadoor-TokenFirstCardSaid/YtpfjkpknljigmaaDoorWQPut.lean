-- Words of the kit's printer, laid by its own command for this seat; what no text of this seat uses is left out (by a program of this session); the kernel checks the rest.
import Derived.Test.YtpfjkpknljigmaaDoorWWords
import Derived.Test.YtpfjkpknljigmaaDoorWLast
namespace Go.Proofs.YtpfjkpknljigmaaDoorW.PrintWords
open Go.RowKit
namespace Kd
end Kd
end Go.Proofs.YtpfjkpknljigmaaDoorW.PrintWords
